/-
  FaultApart: the walk.
-/
import Derived.Test.YtmkcpcndfddhoaaDoorLawWraps
namespace Go.Proofs.YtmkcpcndfddhoaaDoor
open Go.RowKit Go.Extern.Stop Go.Stop Go.Extern

theorem number_as (n N : Int) (h : N = numberOf n) (w : World) : Calls Tryd.prog 17 #[.int .i64 n] w fun e w' => e = .returned (.int .i64 N) ∧ w = w' :=
  (number_any n w).mono fun e w' k => ⟨by rw [k.1, h], k.2.symm⟩

theorem within_mem (l : List (ByteArray × Int)) (k : Nat) (s : ByteArray) (p : Int) (h : l[k]? = some (s, p)) : within s l = true := by
  unfold within
  rw [List.any_eq_true]
  exact ⟨(s, p), List.mem_of_getElem? h, by simp⟩

/-- The k-th of the steps that the statement keeps, read in a later world. -/
theorem step_read {w w' : World} {B g n c k : Nat} {l : List (ByteArray × Int)} {s : ByteArray} {p : Int} (h : w.ownsRow B 39 2 (.slice (some ⟨g, 0, none⟩) n c) n (stepCells l)) (hb : Below w.heap.size w w') (hk : l[k]? = some (s, p)) :
    w'.cell? ⟨g, k * 2, none⟩ = some (.string s) ∧ w'.cell? ⟨g, k * 2 + 1, none⟩ = some (.int .i64 p) := by
  have hcell := h.cells (g := g) rfl
  have hsc := stepCells_get _ k s p hk
  have e0 := hcell _ _ hsc.1
  have e1 := hcell _ _ hsc.2
  have hadd : ∀ n, (⟨g, 0, none⟩ : Addr).add n = ⟨g, n, none⟩ := by intro n; unfold Addr.add; split <;> simp_all
  rw [hadd] at e0 e1
  have hlt := (h.lt g rfl).2
  exact ⟨(hb.cell (p := ⟨g, k * 2, none⟩) hlt).trans e0, (hb.cell (p := ⟨g, k * 2 + 1, none⟩) hlt).trans e1⟩

set_option maxRecDepth 100000 in
set_option maxHeartbeats 2000000 in
theorem apart_any (va vb : Value) (la lb : List (ByteArray × Int)) (n m : Int) (w : World) (hg : errorTypeLaid w) (ha : Steps w va la) (hb : Steps w vb lb) :
    Calls Tryd.prog 4 #[va, vb, .int .i64 n, .int .i64 m] w fun e w' => e = .returned (.bool true) ∧ Below w.heap.size w w' := by
  have c1 := awake_any w hg
  have HA := Lib.hid ha; have HB := Lib.hid hb; have HG := Lib.hid hg
  clear ha hb hg
  go_enter Tryd.func4, Tryd.ntmps4
  go_upto_region 3 with (go_at_call 7; refine c1.mono ?_; rintro e w1 ⟨rfl, hb1⟩)
  go_wp2_with fail
  refine (wrapped_any va la n w1 (HA.out.keep hb1)).mono ?_
  rintro e w2 ⟨ev, fv, rfl, hch, _, hb2⟩
  have hb02 := hb1.trans (hb2.mono hb1.size)
  go_wp2_with fail
  refine (wrapped_any vb lb m w2 (HB.out.keep hb02)).mono ?_
  rintro e w3 ⟨fw, gv, rfl, hcf, hgv, hb3⟩
  have hb03 := hb02.trans (hb3.mono hb02.size)
  have hg3 : errorTypeLaid w3 := (hb03.cell (block_lt HG.out)).trans HG.out
  have hN := numberOf_in n
  have hM := numberOf_in m
  obtain ⟨N, hNe⟩ : ∃ N, N = numberOf n := ⟨_, rfl⟩
  obtain ⟨M, hMe⟩ : ∃ M, M = numberOf m := ⟨_, rfl⟩
  have cN := number_as n N hNe
  have cM := number_as m M hMe
  rw [← hNe] at hch hN
  rw [← hMe] at hcf hM
  obtain ⟨few, hfew⟩ : ∃ few, few = fewOf lb := ⟨_, rfl⟩
  have hl6 := few_len lb
  rw [← hfew] at hcf hgv hl6
  obtain ⟨ea, hea⟩ : ∃ ea, ea = fewOf la := ⟨_, rfl⟩
  rw [← hea] at hch
  have hch3 := hch.under hb3
  clear hNe hMe hfew hea hch
  obtain ⟨T, x, rfl⟩ := hch3.isIface (by intro h; cases h)
  obtain ⟨U, y, rfl⟩ := hcf.isIface (by intro h; cases h)
  have HCE := Lib.hid hch3; have HCF := Lib.hid hcf; have HGV := Lib.hid hgv; have HG3 := Lib.hid hg3; have HB03 := Lib.hid hb03
  have HCN := Lib.hid cN; have HCM := Lib.hid cM
  clear hch3 hcf hg3 hb03 cN cM
  have hform : (few.length = 0 ∧ ∃ a c, gv = .slice a few.length c) ∨ (0 < few.length ∧ ∃ g c, gv = .slice (some ⟨g, 0, none⟩) few.length c) := by
    rcases Nat.eq_zero_or_pos few.length with h | h
    · exact .inl ⟨h, owns_shape hgv⟩
    · obtain ⟨g, c, e, _⟩ := hgv.form h; exact .inr ⟨h, g, c, e⟩
  clear hgv
  obtain ⟨q, hq⟩ : ∃ q, q = few.length := ⟨_, rfl⟩
  rw [← hq] at hform hl6
  rw [← hq] at HGV
  have HQ := Lib.hid hq; clear hq
  have hcase : (N == M) = true ∧ (M == N) = true ∨ (N == M) = false ∧ (M == N) = false := by
    by_cases h : N = M
    · subst h; simp
    · right; exact ⟨by simpa using h, by simpa using fun e => h e.symm⟩
  have HCASE := Lib.hid hcase; clear hcase
  rcases hform with ⟨hz, g, c, rfl⟩ | ⟨hpos, g, c, rfl⟩
  all_goals
    go_upto_region 5 with (fail)
    go_wp2
    go_loopg [31] q (fun k i wr => Hid (∃ j : Nat, j ≤ q ∧ q - j = k ∧ i = .int .i64 j ∧ Below w3.heap.size w3 wr))
    case atStart => exact Lib.hid ⟨0, by omega, by omega, rfl, Below.refl _ _⟩
    case round =>
      obtain ⟨j, hj, hjk, rfl, hbl⟩ := hrel.out
      have HJK := Lib.hid hjk; have HBL := Lib.hid hbl; clear hjk hbl hrel
      have hlt0 : True := trivial
      have hway : j < q ∨ j = q := by omega
      rcases hway with hlt | hje
      · first
          | omega
          | (obtain ⟨s, p, hsp⟩ : ∃ s p, few[j]? = some (s, p) := ⟨(few[j]'(by rw [← HQ.out]; exact hlt)).1, (few[j]'(by rw [← HQ.out]; exact hlt)).2, by rw [List.getElem?_eq_getElem (by rw [← HQ.out]; exact hlt)]⟩
             obtain ⟨f0, f1⟩ := step_read HGV.out HBL.out hsp
             have hwm := within_mem few j s p hsp
             have hW := Within_chain (.iface U y) few (.num M) s (wr.alloc (.cells #[.string s, .int .i64 p] 39)) (by intro h; cases h) ((HCF.out.under HBL.out).alloc _)
             rw [hwm] at hW
             have HW := Lib.hid hW
             clear hsp hwm hW
             go_wp2_with (go_at_call 15; refine HW.out.mono ?_; rintro e w' ⟨rfl, hbw⟩)
             go_roundg (q - (j + 1))
             case rel => exact Lib.hid ⟨j + 1, by omega, rfl, by go_num, (HBL.out.alloc HBL.out.size _).trans (hbw.mono (by have := HBL.out.size; simp; omega))⟩
             case measure => have := HJK.out; omega)
      · have hjq : q ≤ j := by omega
        clear hlt0 hje
        have hg5 : errorTypeLaid wr := (HBL.out.cell (block_lt HG3.out)).trans HG3.out
        have HG5 := Lib.hid hg5; clear hg5
        have HE5 := Lib.hid (HCE.out.under HBL.out); have HF5 := Lib.hid (HCF.out.under HBL.out)
        obtain ⟨wo, rfl⟩ : ∃ wo : World, wo = wr := ⟨_, rfl⟩
        have hn2 : (N == N) = true := by simp
        rcases HCASE.out with ⟨e1, e2⟩ | ⟨e1, e2⟩
        all_goals
          go_wp2_with fail
          refine (HCN.out _).mono ?_
          rintro e w' ⟨rfl, rfl⟩
          go_wp2_with fail
          refine (Has_num _ ea N N wo HE5.out).mono ?_
          rintro e w' ⟨rfl, k1, rfl⟩
          go_wp2_with fail
          refine (Of_num _ ea N (wo.drewN k1) HG5.out (HE5.out.drewN k1)).mono ?_
          rintro e w6 ⟨rfl, hb6⟩
          have hb56 := (below_drewN (Below.refl wo.heap.size wo) k1).trans hb6
          have HB56 := Lib.hid hb56; clear hb6 hb56
          go_wp2_with fail
          refine (Of_num _ few M w6 ((HB56.out.cell (block_lt HG5.out)).trans HG5.out) (HF5.out.under HB56.out)).mono ?_
          rintro e w7 ⟨rfl, hb7⟩
          have HB7 := Lib.hid (HB56.out.trans (hb7.mono HB56.out.size)); clear hb7
          go_wp2_with fail
          refine (HCN.out _).mono ?_
          rintro e w' ⟨rfl, rfl⟩
          go_wp2_with fail
          refine (HCM.out _).mono ?_
          rintro e w' ⟨rfl, rfl⟩
          go_wp2_with fail
          refine (HCN.out _).mono ?_
          rintro e w' ⟨rfl, rfl⟩
          go_wp2_with fail
          refine (Has_num _ few M N w7 (HF5.out.under HB7.out)).mono ?_
          rintro e w' ⟨rfl, k2, rfl⟩
          go_wp2_with fail
          refine (HCN.out _).mono ?_
          rintro e w' ⟨rfl, rfl⟩
          go_wp2_with fail
          refine (HCM.out _).mono ?_
          rintro e w' ⟨rfl, rfl⟩
          go_wp2
          go_ret
          refine ⟨?_, below_drewN ((HB03.out.trans (HBL.out.mono HB03.out.size)).trans (HB7.out.mono (by have := HB03.out.size; have := HBL.out.size; omega))) _⟩
          first | rfl | simp
end Go.Proofs.YtmkcpcndfddhoaaDoor

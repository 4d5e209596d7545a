/-
  FaultStands: the walk.
-/
import Derived.Test.YtmkcpcndfddhoaaDoorLawApart
import Derived.Deep.RegionHeld3
namespace Go.Proofs.YtmkcpcndfddhoaaDoor
open Go.RowKit Go.Extern.Stop Go.Stop Go.Extern

/-- errors.Unwrap of a fault. -/
theorem Unwrap_fault (b : Nat) (v : Value) (w : World) (h : w.cell? ⟨b, 2, none⟩ = some v) :
    Calls Tryd.prog 21 #[faultVal b] w fun e w' => e = .returned v ∧ w = w' := by
  have uF := unwrapFault
  go_enter Tryd.func21, Tryd.ntmps21
  go_wp2_with (go_at_call 71; refine (faultUnwrap b v _ h).mono ?_; rintro e w' ⟨rfl, rfl⟩)
  go_ret
  exact ⟨rfl, rfl⟩

/-- An error is equal to itself. -/
theorem eqSelf {w0 : World} {v : Value} {l : List (ByteArray × Int)} {n : Int} (h : Chain w0 (.num n) v l) (w : World) :
    (binOp .eql 25 v v).run Tryd.prog w = .ok (.bool true) w := by
  cases h with
  | base => exact (eqNum n n w).trans (by simp)
  | step b s p u l' hb h1 =>
    obtain ⟨i, hi, hcmp⟩ := Option.map_eq_some_iff.1 (show (Tryd.prog.info? 45).map (·.comparable) = some true by kernel_rfl)
    obtain ⟨j0, hj, hjs⟩ := Option.map_eq_some_iff.1 (show (Tryd.prog.info? 47).map (·.size) = some 3 by kernel_rfl)
    exact run_eql_iface_ptr_same (P := Tryd.prog) w ⟨b, 0, none⟩ Tryd.underlying25 Tryd.underlying45 hi hcmp hj

abbrev outerText : ByteArray := ⟨#[111, 117, 116, 101, 114]⟩

theorem outerList : outerText.toList = [111, 117, 116, 101, 114] := by decide +kernel

/-- Is it one of these? Told step by step. -/
def isOf (other : ByteArray) (l : List (ByteArray × Int)) (j : Nat) : Bool := (other.toList == outerText.toList) || (l.take j).any fun x => x.1.toList == other.toList
theorem isOf_zero (other : ByteArray) (l : List (ByteArray × Int)) : isOf other l 0 = (other.toList == outerText.toList) := by simp [isOf]
theorem isOf_succ (other : ByteArray) (l : List (ByteArray × Int)) (j : Nat) (s : ByteArray) (p : Int) (h : l[j]? = some (s, p)) : isOf other l (j + 1) = (isOf other l j || s.toList == other.toList) := by
  have h2 : l.take (j + 1) = l.take j ++ [(s, p)] := by
    rw [List.take_add_one, h]; rfl
  unfold isOf
  rw [h2, List.any_append, Bool.or_assoc]
  simp
theorem isOf_end (other : ByteArray) (l : List (ByteArray × Int)) (at_ : Int) : within other ((outerText, at_) :: l) = isOf other l l.length := by
  have h1 : ∀ a b : List UInt8, (a == b) = (b == a) := fun a b => by
    by_cases h : a = b
    · subst h; rfl
    · rw [beq_eq_false_iff_ne.2 h, beq_eq_false_iff_ne.2 (fun e => h e.symm)]
  simp only [within, isOf, List.any_cons, List.take_length]
  rw [show (fun x : ByteArray × Int => other.toList == x.1.toList) = fun x => x.1.toList == other.toList from funext fun x => h1 _ _]

/-- The condition held over a drawn region may be made narrower on the way. -/
theorem wpAnyH_turn {P : Program} {md : Region.Mode} {ops : Array Oper} {Q : Exit → Act → World → Prop} {S S' : World → Prop} (hSS : ∀ w, S' w → S w) :
    ∀ (fuel : Nat) (listed : Array Bool) (a : Act) (w : World), wpAnyH P md ops Q S' fuel listed a w → wpAnyH P md ops Q S fuel listed a w
  | 0, _, _, _, h => h
  | fuel + 1, _, _, _, h => ⟨h.1, fun i hi => wpOp_mono (fun a' w' h' => ⟨hSS _ h'.1, wpAnyH_turn hSS fuel _ a' w' h'.2⟩) (h.2 i hi)⟩

/-- errors.As(outer, &f), f being made behind wo. -/
theorem As_outer (wo : World) (B F : Nat) (W : World) (hF : F = wo.heap.size) (hg : errorTypeLaid wo) (hb : Below wo.heap.size wo W) (hf : W.heap[F]? = some (.cells #[.pointer none] 45 (0, 0))) (hx : W.heap[F + 1]? = some (.cells #[.int .i64 0] 33 (0, 0))) :
    Calls Tryd.prog 20 #[faultVal B, .iface 51 (.pointer (some ⟨F, 0, none⟩))] W fun e w1 => e = .returned (.bool true) ∧ Below wo.heap.size wo w1 ∧ w1.cell? ⟨F, 0, none⟩ = some (.pointer (some ⟨B, 0, none⟩)) ∧ w1.heap[F + 1]? = some (.cells #[.int .i64 0] 33 (0, 0)) := by
  refine (As_faultHit B ⟨F, 0, none⟩ (.pointer none) W ((hb.cell (block_lt hg)).trans hg) (cell_of_one hf) (free_of_one hf)).mono ?_
  rintro e w1 ⟨rfl, h1, h2⟩
  refine ⟨rfl, hb.grown h2 hb.size (fun k hk => by cases hk; exact Nat.le_of_eq hF.symm), h1, ?_⟩
  rw [h2.block (F + 1) (Array.getElem?_eq_some_iff.1 hx).1 (by intro e; cases e)]
  exact hx

/-- errors.As(outer, &x), x being made behind wo. -/
theorem As_number (wo : World) (v : Value) (l : List (ByteArray × Int)) (N : Int) (F : Nat) (fv : Value) (W : World) (hF : F = wo.heap.size) (hg : errorTypeLaid wo) (hc : Chain wo (.num N) v l) (hb : Below wo.heap.size wo W) (hf : W.cell? ⟨F, 0, none⟩ = some fv) (hx : W.heap[F + 1]? = some (.cells #[.int .i64 0] 33 (0, 0))) :
    Calls Tryd.prog 20 #[v, .iface 52 (.pointer (some ⟨F + 1, 0, none⟩))] W fun e w1 => e = .returned (.bool true) ∧ Below wo.heap.size wo w1 ∧ w1.cell? ⟨F, 0, none⟩ = some fv ∧ w1.cell? ⟨F + 1, 0, none⟩ = some (.int .i64 N) := by
  refine (As_num v l N ⟨F + 1, 0, none⟩ (.int .i64 0) W ((hb.cell (block_lt hg)).trans hg) (hc.under hb) (cell_of_one hx) (free_of_one hx)).mono ?_
  rintro e w1 ⟨rfl, h1, h2⟩
  refine ⟨rfl, hb.grown h2 hb.size (fun k hk => by cases hk; show _ ≤ F + 1; omega), ?_, h1⟩
  rw [h2.cell hf (by intro e; cases e)]

set_option maxRecDepth 100000 in
set_option maxHeartbeats 4000000 in
set_option linter.unusedSimpArgs false in
theorem stands_any (v : Value) (l : List (ByteArray × Int)) (n m : Int) (other : ByteArray) (p : Int) (w : World) (hg : errorTypeLaid w) (hv : Steps w v l) :
    Calls Tryd.prog 6 #[v, .int .i64 n, .int .i64 m, .string other, .int .i64 p] w fun e w' => e = .returned (.bool true) ∧ Below w.heap.size w w' := by
  have c1 := awake_any w hg
  have HV := Lib.hid hv; have HG := Lib.hid hg
  clear hv hg
  go_enter Tryd.func6, Tryd.ntmps6
  go_upto_region 3 with (go_at_call 7; refine c1.mono ?_; rintro e w1 ⟨rfl, hb1⟩)
  go_wp2_with fail
  refine (wrapped_any v l n w1 (HV.out.keep hb1)).mono ?_
  rintro e w2 ⟨ev, fv, rfl, hch, hfv, hb2⟩
  have hN := numberOf_in n
  have hM := numberOf_in m
  obtain ⟨N, hNe⟩ : ∃ N, N = numberOf n := ⟨_, rfl⟩
  obtain ⟨M, hMe⟩ : ∃ M, M = numberOf m := ⟨_, rfl⟩
  have cN := number_as n N hNe
  have cM := number_as m M hMe
  rw [← hNe] at hch hN
  rw [← hMe] at hM
  obtain ⟨few, hfew⟩ : ∃ few, few = fewOf l := ⟨_, rfl⟩
  have hl6 := few_len l
  rw [← hfew] at hch hfv hl6
  clear hNe hMe hfew
  have HCH := Lib.hid hch; have HFV := Lib.hid hfv; have HCN := Lib.hid cN; have HCM := Lib.hid cM
  have HE := Lib.hid (fun w' => eqSelf hch w')
  have HB2 := Lib.hid (hb1.trans (hb2.mono hb1.size))
  obtain ⟨T, x, rfl⟩ := hch.isIface (by intro h; cases h)
  clear hch cN cM hb2
  go_wp2_with fail
  refine (In_any outerText p _ (.num N) few w2 (by show N ≠ 0; omega) HCH.out).mono ?_
  rintro e w3 ⟨rfl, hw3, hch3⟩
  have hb3 : Below w2.heap.size w2 w3 := by rw [hw3]; exact (Below.refl _ _).alloc (Nat.le_refl _) _
  have hblk : w3.heap[w2.heap.size]? = some (faultCells outerText p (.iface T x)) := by rw [hw3]; exact heap_new w2 _
  have HC3 := Lib.hid hch3; have HC3e := Lib.hid (HCH.out.under hb3); have HBK := Lib.hid hblk; have HFV3 := Lib.hid (owns_below hfv hb3)
  have HB3 := Lib.hid (HB2.out.trans (hb3.mono HB2.out.size))
  obtain ⟨B, hBdef⟩ : ∃ B, B = w2.heap.size := ⟨_, rfl⟩
  have HBD := Lib.hid hBdef
  rw [← hBdef] at HC3 HBK ⊢
  clear hw3 hch3 hblk hfv hb3 hBdef
  go_wp2_with fail
  refine (Cut_any other 10 w3).mono ?_
  rintro e w3' ⟨rfl, hw⟩
  obtain rfl := hw.symm
  clear hw
  obtain ⟨o, ho⟩ : ∃ o, o = cutTo other 10 := ⟨_, rfl⟩
  rw [← ho]
  clear ho
  have hform : (few.length = 0 ∧ ∃ a c, fv = .slice a few.length c) ∨ (0 < few.length ∧ ∃ g c, fv = .slice (some ⟨g, 0, none⟩) few.length c) := by
    rcases Nat.eq_zero_or_pos few.length with h | h
    · exact .inl ⟨h, owns_shape HFV3.out⟩
    · obtain ⟨g, c, e, _⟩ := HFV3.out.form h; exact .inr ⟨h, g, c, e⟩
  clear HFV
  obtain ⟨q, hq⟩ : ∃ q, q = few.length := ⟨_, rfl⟩
  rw [← hq] at hform hl6 HFV3
  have HQ := Lib.hid hq; clear hq
  have hcase : (N == M) = true ∧ (M == N) = true ∨ (N == M) = false ∧ (M == N) = false := by
    by_cases h : N = M
    · subst h; simp
    · right; exact ⟨by simpa using h, by simpa using fun e => h e.symm⟩
  have HCASE := Lib.hid hcase; clear hcase
  rcases hform with ⟨hz, g, c, rfl⟩ | ⟨hpos, g, c, rfl⟩
  all_goals
    go_upto_region 7 with (fail)
    go_wp2
    go_loopg [36, 14] q (fun k i b wr => Hid (∃ j : Nat, j ≤ q ∧ q - j = k ∧ i = .int .i64 j ∧ b = .bool (isOf o few j) ∧ Below w3.heap.size w3 wr))
    case atStart => exact Lib.hid ⟨0, by omega, by omega, rfl, by rw [isOf_zero, outerList], Below.refl _ _⟩
    case round =>
      obtain ⟨j, hj, hjk, rfl, rfl, hbl⟩ := hrel.out
      have HJK := Lib.hid hjk; have HBL := Lib.hid hbl; clear hjk hbl hrel
      have hlt0 : True := trivial
      have hway : j < q ∨ j = q := by omega
      rcases hway with hlt | hje
      · first
          | omega
          | (obtain ⟨s, sp, hsp⟩ : ∃ s sp, few[j]? = some (s, sp) := ⟨(few[j]'(by rw [← HQ.out]; exact hlt)).1, (few[j]'(by rw [← HQ.out]; exact hlt)).2, by rw [List.getElem?_eq_getElem (by rw [← HQ.out]; exact hlt)]⟩
             obtain ⟨f0, f1⟩ := step_read HFV3.out HBL.out hsp
             have HS := Lib.hid (isOf_succ o few j s sp hsp)
             clear hsp
             obtain ⟨is, his⟩ : ∃ is, is = isOf o few j := ⟨_, rfl⟩
             rw [← his]
             have HI := Lib.hid his
             clear his
             cases is
             all_goals
               go_wp2
               go_roundg (q - (j + 1))
               case rel => exact Lib.hid ⟨j + 1, by omega, rfl, by go_num, by rw [HS.out, ← HI.out]; simp, HBL.out.alloc HBL.out.size _⟩
               case measure => have := HJK.out; omega)
      · obtain rfl : q = j := hje.symm
        have hjq : q ≤ q := Nat.le_refl q
        clear hlt0
        obtain ⟨is, his⟩ : ∃ is, is = isOf o few q := ⟨_, rfl⟩
        have HI := Lib.hid (show is = within o ((outerText, p) :: few) by rw [isOf_end, ← HQ.out, his])
        rw [← his]
        clear his
        obtain ⟨wo, rfl⟩ : ∃ wo : World, wo = wr := ⟨_, rfl⟩
        have hbw : B < wo.heap.size := Nat.lt_of_lt_of_le (Array.getElem?_eq_some_iff.1 HBK.out).1 HBL.out.size
        go_upto_region 14 with (fail)
        obtain ⟨W, hW⟩ : ∃ W, W = (wo.alloc (.cells #[.pointer none] 45)).alloc (.cells #[.int .i64 0] 33) := ⟨_, rfl⟩
        rw [← hW]
        have hFW : W.heap[wo.heap.size]? = some (.cells #[.pointer none] 45 (0, 0)) := by rw [hW, Below.heap_alloc _ _ _ (by simp)]; exact heap_new wo _
        have hXW : W.heap[wo.heap.size + 1]? = some (.cells #[.int .i64 0] 33 (0, 0)) := by rw [hW]; simpa using heap_new (wo.alloc (.cells #[.pointer none] 45)) (.cells #[.int .i64 0] 33)
        have hbW : Below wo.heap.size wo W := by rw [hW]; exact ((Below.refl _ _).alloc (Nat.le_refl _) _).alloc (by simp) _
        clear hW
        have hg3 : errorTypeLaid w3 := (HB3.out.cell (block_lt HG.out)).trans HG.out
        have hgo : errorTypeLaid wo := (HBL.out.cell (block_lt hg3)).trans hg3
        have HGO := Lib.hid hgo
        have HCO := Lib.hid (HC3.out.under HBL.out)
        have HCOe := Lib.hid (HC3e.out.under HBL.out)
        have HBO := Lib.hid ((HBL.out.block B (Array.getElem?_eq_some_iff.1 HBK.out).1).trans HBK.out)
        have HBWO := Lib.hid hbw
        clear hg3 hgo hbw
        obtain ⟨F, hFd⟩ : ∃ F, F = wo.heap.size := ⟨_, rfl⟩
        rw [← hFd] at hFW hXW ⊢
        have HFW := Lib.hid hFW; have HXW := Lib.hid hXW; have HBW := Lib.hid hbW; have HFD := Lib.hid hFd
        clear hFW hXW hbW hFd
        have hcl : ∀ w', Below wo.heap.size wo w' → w'.cell? ⟨B, 0, none⟩ = some (.string outerText) ∧ w'.cell? ⟨B, 1, none⟩ = some (.int .i64 p) := fun w' hb => ⟨(cells3 ((hb.block B HBWO.out).trans HBO.out)).1, (cells3 ((hb.block B HBWO.out).trans HBO.out)).2.1⟩
        have HCL := Lib.hid hcl
        clear hcl
        have hs0 := HCL.out W HBW.out
        refine wp_region_noPanic ?_
        refine wp_region_held_drew (S := fun _ => True) (by kernel_rfl) trivial (fun _ => ?_)
        refine wpAnyH_take (i := 0) (v := ?_) rfl (by kernel_rfl) (by kernel_rfl) (by kernel_rfl) (fun _ _ _ h => h) (Or.inl ⟨by rfl, ?_⟩) trivial ?_
        rotate_left
        · intro w _; go_simp; with_reducible rfl
        try simp only [Act.put, List.setIfInBounds_toArray, List.set_cons_zero, List.set_cons_succ]
        refine wpAnyH_take (i := 1) (v := ?_) rfl (by kernel_rfl) (by kernel_rfl) (by kernel_rfl) (fun _ _ _ h => h) (Or.inl ⟨by rfl, ?_⟩) trivial ?_
        rotate_left
        · intro w _; go_simp; with_reducible rfl
        try simp only [Act.put, List.setIfInBounds_toArray, List.set_cons_zero, List.set_cons_succ]
        refine wpAnyH_ready (rs := [2]) (by kernel_rfl) (by simp) ?_
        refine AllReadyH.cons rfl (fun K hK => ?_) AllReadyH.nil
        go_simp
        go_at_call 14
        refine (Is_behind outerText p _ few N B w2 _ HBD.out HCH.out ((HCOe.out.under HBW.out).drewN _) (by exact (HBW.out.block B HBWO.out).trans HBO.out)).mono ?_
        rintro e w' ⟨rfl, k, rfl⟩
        refine hK.out _ _ trivial (fun _ => ?_)
        clear hK K
        try simp only [Act.put, List.setIfInBounds_toArray, List.set_cons_zero, List.set_cons_succ]
        refine wpAnyH_take (i := 3) (v := ?_) rfl (by kernel_rfl) (by kernel_rfl) (by kernel_rfl) (fun _ _ _ h => h) (Or.inl ⟨by rfl, ?_⟩) trivial ?_
        rotate_left
        · intro w _; go_simp; with_reducible rfl
        try simp only [Act.put, List.setIfInBounds_toArray, List.set_cons_zero, List.set_cons_succ]
        refine wpAnyH_take (i := 4) (v := ?_) rfl (by kernel_rfl) (by kernel_rfl) (by kernel_rfl) (fun _ _ _ h => h) (Or.inl ⟨by rfl, ?_⟩) trivial ?_
        rotate_left
        · intro w _; go_simp; with_reducible rfl
        try simp only [Act.put, List.setIfInBounds_toArray, List.set_cons_zero, List.set_cons_succ]
        refine wpAnyH_take (i := 5) (v := ?_) rfl (by kernel_rfl) (by kernel_rfl) (by kernel_rfl) (fun _ _ _ h => h) (Or.inl ⟨by rfl, ?_⟩) trivial ?_
        rotate_left
        · intro w _; go_simp; with_reducible rfl
        try simp only [Act.put, List.setIfInBounds_toArray, List.set_cons_zero, List.set_cons_succ]
        refine wpAnyH_take (i := 6) (v := ?_) rfl (by kernel_rfl) (by kernel_rfl) (by kernel_rfl) (fun _ _ _ h => h) (Or.inl ⟨by rfl, ?_⟩) trivial ?_
        rotate_left
        · intro w _; go_simp; with_reducible rfl
        try simp only [Act.put, List.setIfInBounds_toArray, List.set_cons_zero, List.set_cons_succ]
        refine wpAnyH_ready (rs := [7]) (by kernel_rfl) (by simp) ?_
        refine AllReadyH.cons rfl (fun K hK => ?_) AllReadyH.nil
        go_simp
        go_at_call 20
        refine (As_outer wo B F _ HFD.out HGO.out (by first | exact below_drewN HBW.out _ | exact below_drewN (below_drewN HBW.out _) _) (by exact HFW.out) (by exact HXW.out)).mono ?_
        rintro e w4 ⟨rfl, hb4, hf4, hx4⟩
        refine hK.out _ _ trivial (fun _ => ?_)
        clear hK K
        try simp only [Act.put, List.setIfInBounds_toArray, List.set_cons_zero, List.set_cons_succ]
        have HB4 := Lib.hid hb4; have HX4 := Lib.hid hx4; have hs1 := HCL.out w4 hb4
        obtain ⟨s0, s1⟩ := hs1; clear hb4 hx4 hs0
        refine wpAnyH_take (i := 8) (v := ?_) rfl (by kernel_rfl) (by kernel_rfl) (by kernel_rfl) (fun _ _ _ h => h) (Or.inl ⟨by rfl, ?_⟩) trivial ?_
        rotate_left
        · intro w _; go_simp; with_reducible rfl
        try simp only [Act.put, List.setIfInBounds_toArray, List.set_cons_zero, List.set_cons_succ]
        refine wpAnyH_take (i := 9) (v := ?_) rfl (by kernel_rfl) (by kernel_rfl) (by kernel_rfl) (fun _ _ _ h => h) (Or.inl ⟨by rfl, ?_⟩) trivial ?_
        rotate_left
        · intro w _; go_simp; with_reducible rfl
        try simp only [Act.put, List.setIfInBounds_toArray, List.set_cons_zero, List.set_cons_succ]
        refine wpAnyH_take (i := 10) (v := ?_) rfl (by kernel_rfl) (by kernel_rfl) (by kernel_rfl) (fun _ _ _ h => h) (Or.inl ⟨by rfl, ?_⟩) trivial ?_
        rotate_left
        · intro w _; go_simp; with_reducible rfl
        try simp only [Act.put, List.setIfInBounds_toArray, List.set_cons_zero, List.set_cons_succ]
        refine wpAnyH_ready (rs := [11]) (by kernel_rfl) (by simp) ?_
        refine AllReadyH.cons rfl (fun K hK => ?_) AllReadyH.nil
        go_simp
        refine hK.out _ _ trivial (fun _ => ?_)
        clear hK K
        try simp only [Act.put, List.setIfInBounds_toArray, List.set_cons_zero, List.set_cons_succ]
        refine wpAnyH_take (i := 12) (v := ?_) rfl (by kernel_rfl) (by kernel_rfl) (by kernel_rfl) (fun _ _ _ h => h) (Or.inl ⟨by rfl, ?_⟩) trivial ?_
        rotate_left
        · intro w _; go_simp; with_reducible rfl
        try simp only [Act.put, List.setIfInBounds_toArray, List.set_cons_zero, List.set_cons_succ]
        refine wpAnyH_take (i := 13) (v := ?_) rfl (by kernel_rfl) (by kernel_rfl) (by kernel_rfl) (fun _ _ _ h => h) (Or.inl ⟨by rfl, ?_⟩) trivial ?_
        rotate_left
        · intro w _; go_simp; with_reducible rfl
        try simp only [Act.put, List.setIfInBounds_toArray, List.set_cons_zero, List.set_cons_succ]
        refine wpAnyH_ready (rs := [14]) (by kernel_rfl) (by simp) ?_
        refine AllReadyH.cons rfl (fun K hK => ?_) AllReadyH.nil
        go_simp
        refine hK.out _ _ trivial (fun _ => ?_)
        clear hK K
        try simp only [Act.put, List.setIfInBounds_toArray, List.set_cons_zero, List.set_cons_succ]
        refine wpAnyH_take (i := 15) (v := ?_) rfl (by kernel_rfl) (by kernel_rfl) (by kernel_rfl) (fun _ _ _ h => h) (Or.inl ⟨by rfl, ?_⟩) trivial ?_
        rotate_left
        · intro w _; go_simp; with_reducible rfl
        try simp only [Act.put, List.setIfInBounds_toArray, List.set_cons_zero, List.set_cons_succ]
        refine wpAnyH_take (i := 16) (v := ?_) rfl (by kernel_rfl) (by kernel_rfl) (by kernel_rfl) (fun _ _ _ h => h) (Or.inl ⟨by rfl, ?_⟩) trivial ?_
        rotate_left
        · intro w _; go_simp; with_reducible rfl
        try simp only [Act.put, List.setIfInBounds_toArray, List.set_cons_zero, List.set_cons_succ]
        refine wpAnyH_take (i := 17) (v := ?_) rfl (by kernel_rfl) (by kernel_rfl) (by kernel_rfl) (fun _ _ _ h => h) (Or.inl ⟨by rfl, ?_⟩) trivial ?_
        rotate_left
        · intro w _; go_simp; with_reducible rfl
        try simp only [Act.put, List.setIfInBounds_toArray, List.set_cons_zero, List.set_cons_succ]
        refine wpAnyH_take (i := 22) (v := ?_) rfl (by kernel_rfl) (by kernel_rfl) (by kernel_rfl) (fun _ _ _ h => h) (Or.inl ⟨by rfl, ?_⟩) trivial ?_
        rotate_left
        · intro w _; go_simp; with_reducible rfl
        try simp only [Act.put, List.setIfInBounds_toArray, List.set_cons_zero, List.set_cons_succ]
        refine wpAnyH_ready (rs := [18]) (by kernel_rfl) (by simp) ?_
        refine AllReadyH.cons rfl (fun K hK => ?_) AllReadyH.nil
        go_simp
        refine hK.out _ _ trivial (fun _ => ?_)
        clear hK K
        try simp only [Act.put, List.setIfInBounds_toArray, List.set_cons_zero, List.set_cons_succ]
        refine wpAnyH_take (i := 19) (v := ?_) rfl (by kernel_rfl) (by kernel_rfl) (by kernel_rfl) (fun _ _ _ h => h) (Or.inl ⟨by rfl, ?_⟩) trivial ?_
        rotate_left
        · intro w _; go_simp; with_reducible rfl
        try simp only [Act.put, List.setIfInBounds_toArray, List.set_cons_zero, List.set_cons_succ]
        refine wpAnyH_take (i := 20) (v := ?_) rfl (by kernel_rfl) (by kernel_rfl) (by kernel_rfl) (fun _ _ _ h => h) (Or.inl ⟨by rfl, ?_⟩) trivial ?_
        rotate_left
        · intro w _; go_simp; with_reducible rfl
        try simp only [Act.put, List.setIfInBounds_toArray, List.set_cons_zero, List.set_cons_succ]
        refine wpAnyH_ready (rs := [21]) (by kernel_rfl) (by simp) ?_
        refine AllReadyH.cons rfl (fun K hK => ?_) AllReadyH.nil
        go_simp
        refine hK.out _ _ trivial (fun _ => ?_)
        clear hK K
        try simp only [Act.put, List.setIfInBounds_toArray, List.set_cons_zero, List.set_cons_succ]
        refine wpAnyH_take (i := 23) (v := ?_) rfl (by kernel_rfl) (by kernel_rfl) (by kernel_rfl) (fun _ _ _ h => h) (Or.inl ⟨by rfl, ?_⟩) trivial ?_
        rotate_left
        · intro w _; go_simp; with_reducible rfl
        try simp only [Act.put, List.setIfInBounds_toArray, List.set_cons_zero, List.set_cons_succ]
        refine wpAnyH_take (i := 24) (v := ?_) rfl (by kernel_rfl) (by kernel_rfl) (by kernel_rfl) (fun _ _ _ h => h) (Or.inl ⟨by rfl, ?_⟩) trivial ?_
        rotate_left
        · intro w _; go_simp; with_reducible rfl
        try simp only [Act.put, List.setIfInBounds_toArray, List.set_cons_zero, List.set_cons_succ]
        refine wpAnyH_take (i := 25) (v := ?_) rfl (by kernel_rfl) (by kernel_rfl) (by kernel_rfl) (fun _ _ _ h => h) (Or.inl ⟨by rfl, ?_⟩) trivial ?_
        rotate_left
        · intro w _; go_simp; with_reducible rfl
        try simp only [Act.put, List.setIfInBounds_toArray, List.set_cons_zero, List.set_cons_succ]
        refine wpAnyH_take (i := 26) (v := ?_) rfl (by kernel_rfl) (by kernel_rfl) (by kernel_rfl) (fun _ _ _ h => h) (Or.inl ⟨by rfl, ?_⟩) trivial ?_
        rotate_left
        · intro w _; go_simp; with_reducible rfl
        try simp only [Act.put, List.setIfInBounds_toArray, List.set_cons_zero, List.set_cons_succ]
        refine wpAnyH_take (i := 27) (v := ?_) rfl (by kernel_rfl) (by kernel_rfl) (by kernel_rfl) (fun _ _ _ h => h) (Or.inl ⟨by rfl, ?_⟩) trivial ?_
        rotate_left
        · intro w _; go_simp; with_reducible rfl
        try simp only [Act.put, List.setIfInBounds_toArray, List.set_cons_zero, List.set_cons_succ]
        refine wpAnyH_ready (rs := [28]) (by kernel_rfl) (by simp) ?_
        refine AllReadyH.cons rfl (fun K hK => ?_) AllReadyH.nil
        go_simp
        go_at_call 20
        refine (As_number wo _ _ N F (.pointer (some ⟨B, 0, none⟩)) w4 HFD.out HGO.out HCO.out HB4.out hf4 HX4.out).mono ?_
        rintro e w5 ⟨rfl, hb5, hf5, hx5⟩
        refine hK.out _ _ trivial (fun _ => ?_)
        clear hK K
        try simp only [Act.put, List.setIfInBounds_toArray, List.set_cons_zero, List.set_cons_succ]
        have HB5 := Lib.hid hb5; clear hb5
        refine wpAnyH_take (i := 29) (v := ?_) rfl (by kernel_rfl) (by kernel_rfl) (by kernel_rfl) (fun _ _ _ h => h) (Or.inl ⟨by rfl, ?_⟩) trivial ?_
        rotate_left
        · intro w _; go_simp; with_reducible rfl
        try simp only [Act.put, List.setIfInBounds_toArray, List.set_cons_zero, List.set_cons_succ]
        refine wpAnyH_take (i := 30) (v := ?_) rfl (by kernel_rfl) (by kernel_rfl) (by kernel_rfl) (fun _ _ _ h => h) (Or.inl ⟨by rfl, ?_⟩) trivial ?_
        rotate_left
        · intro w _; go_simp; with_reducible rfl
        try simp only [Act.put, List.setIfInBounds_toArray, List.set_cons_zero, List.set_cons_succ]
        refine wpAnyH_take (i := 31) (v := ?_) rfl (by kernel_rfl) (by kernel_rfl) (by kernel_rfl) (fun _ _ _ h => h) (Or.inl ⟨by rfl, ?_⟩) trivial ?_
        rotate_left
        · intro w _; go_simp; with_reducible rfl
        try simp only [Act.put, List.setIfInBounds_toArray, List.set_cons_zero, List.set_cons_succ]
        refine wpAnyH_take (i := 33) (v := ?_) rfl (by kernel_rfl) (by kernel_rfl) (by kernel_rfl) (fun _ _ _ h => h) (Or.inl ⟨by rfl, ?_⟩) trivial ?_
        rotate_left
        · intro w _; go_simp; with_reducible rfl
        try simp only [Act.put, List.setIfInBounds_toArray, List.set_cons_zero, List.set_cons_succ]
        refine wpAnyH_turn (S' := fun w' => w' = w5) (fun _ _ => trivial) _ _ _ _ ?_
        refine wpAnyH_take (i := 32) (v := ?_) rfl (by kernel_rfl) (by kernel_rfl) (by kernel_rfl) (fun _ _ _ h => h) (Or.inl ⟨by rfl, ?_⟩) rfl ?_
        rotate_left
        · intro w hw; subst hw; go_simp; with_reducible rfl
        try simp only [Act.put, List.setIfInBounds_toArray, List.set_cons_zero, List.set_cons_succ]
        refine wpAnyH_ready (rs := [34]) (by kernel_rfl) (by simp) ?_
        refine AllReadyH.cons rfl (fun K hK => ?_) AllReadyH.nil
        go_simp
        go_at_call 17
        refine (HCN.out _).mono ?_
        rintro e w' ⟨rfl, rfl⟩
        refine hK.out _ _ rfl (fun _ => ?_)
        clear hK K
        try simp only [Act.put, List.setIfInBounds_toArray, List.set_cons_zero, List.set_cons_succ]
        refine wpAnyH_take (i := 35) (v := ?_) rfl (by kernel_rfl) (by kernel_rfl) (by kernel_rfl) (fun _ _ _ h => h) (Or.inl ⟨by rfl, ?_⟩) rfl ?_
        rotate_left
        · intro w hw; subst hw; go_simp; with_reducible rfl
        try simp only [Act.put, List.setIfInBounds_toArray, List.set_cons_zero, List.set_cons_succ]
        refine wpAnyH_take (i := 36) (v := ?_) rfl (by kernel_rfl) (by kernel_rfl) (by kernel_rfl) (fun _ _ _ h => h) (Or.inl ⟨by rfl, ?_⟩) rfl ?_
        rotate_left
        · intro w hw; subst hw; go_simp; with_reducible rfl
        try simp only [Act.put, List.setIfInBounds_toArray, List.set_cons_zero, List.set_cons_succ]
        refine wpAnyH_done (by kernel_rfl) ?_ _
        refine NoPanic.normal ?_
        have HC5 := Lib.hid (HCO.out.under HB5.out)
        have hk5 := (HB5.out.block B HBWO.out).trans HBO.out
        have HK5 := Lib.hid hk5; clear hk5
        have hn2 : (N == N) = true := by simp
        have hb2 : (is == is) = true := by simp
        clear hf5 hx5 hf4
        rcases HCASE.out with ⟨e1, e2⟩ | ⟨e1, e2⟩
        all_goals
          go_wp2_with fail
          refine (HCN.out _).mono ?_
          rintro e w' ⟨rfl, rfl⟩
          go_wp2_with fail
          refine (Has_num _ _ N N w5 HC5.out).mono ?_
          rintro e w' ⟨rfl, k1, rfl⟩
          rw [hn2]
          go_wp2_with fail
          refine (HCM.out _).mono ?_
          rintro e w' ⟨rfl, rfl⟩
          go_wp2_with fail
          refine (Has_num _ _ N M _ (HC5.out.drewN k1)).mono ?_
          rintro e w' ⟨rfl, k2, rfl⟩
          go_wp2_with fail
          refine (HCM.out _).mono ?_
          rintro e w' ⟨rfl, rfl⟩
          go_wp2_with fail
          refine (HCN.out _).mono ?_
          rintro e w' ⟨rfl, rfl⟩
          obtain ⟨w6, hw6⟩ : ∃ w6, w6 = w5.drewN (k1 + k2) := ⟨_, rfl⟩
          have HB6 := Lib.hid (show Below wo.heap.size wo w6 by rw [hw6]; exact below_drewN HB5.out _)
          rw [← hw6]
          clear hw6
          go_wp2_with fail
          refine (Within_chain (faultVal B) ((outerText, p) :: few) (.num N) o w6 (by intro h; cases h) (HCO.out.under HB6.out)).mono ?_
          rintro e w7 ⟨rfl, hb7⟩
          rw [← HI.out]
          have HB7 := Lib.hid (HB6.out.trans (hb7.mono HB6.out.size))
          clear hb7
          go_wp2_with fail
          refine (HCN.out _).mono ?_
          rintro e w' ⟨rfl, rfl⟩
          go_wp2_with fail
          refine (Is_num _ _ N N w7 (HCO.out.under HB7.out)).mono ?_
          rintro e w' ⟨rfl, k3, rfl⟩
          rw [hn2]
          obtain ⟨w8, hw8⟩ : ∃ w8, w8 = w7.drewN k3 := ⟨_, rfl⟩
          have HB8 := Lib.hid (show Below wo.heap.size wo w8 by rw [hw8]; exact below_drewN HB7.out _)
          rw [← hw8]
          clear hw8
          go_wp2_with fail
          refine (Unwrap_fault B (.iface T x) w8 (cells3 ((HB8.out.block B HBWO.out).trans HBO.out)).2.2).mono ?_
          rintro e w' ⟨rfl, rfl⟩
          have hself := HE.out w8
          go_wp2
          go_ret
          exact ⟨rfl, (HB3.out.trans (HBL.out.mono HB3.out.size)).trans (HB8.out.mono (Nat.le_trans HB3.out.size HBL.out.size))⟩
end Go.Proofs.YtmkcpcndfddhoaaDoor

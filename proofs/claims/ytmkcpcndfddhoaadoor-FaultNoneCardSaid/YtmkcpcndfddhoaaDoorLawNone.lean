/-
  FaultNone: the walk.
-/
import Derived.Test.YtmkcpcndfddhoaaDoorLawWraps
namespace Go.Proofs.YtmkcpcndfddhoaaDoor
open Go.RowKit Go.Extern.Stop Go.Stop Go.Extern

abbrev plainVal (q : Nat) : Value := .iface 60 (.pointer (some ⟨q, 0, none⟩))

theorem New_any (s : ByteArray) (w : World) :
    Calls Tryd.prog 18 #[.string s] w fun e w' => e = .returned (plainVal w.heap.size) ∧ Below w.heap.size w w' := by
  go_enter Tryd.func18, Tryd.ntmps18
  go_wp2
  go_ret
  exact ⟨rfl, (Below.refl _ _).alloc (Nat.le_refl _) _⟩

set_option maxRecDepth 100000 in
set_option maxHeartbeats 1000000 in
theorem isLoop_plain (b q : Nat) (s : ByteArray) (p : Int) (w : World) (hb : w.heap[b]? = some (faultCells s p (plainVal q))) :
    Calls Tryd.prog 25 #[faultVal b, plainVal q, .bool true] w fun e w' => e = .returned (.bool true) ∧ ∃ k, w' = w.drewN k := by
  have iF := hasIsFault
  have uF := unwrapFault
  have eT := fun x w => eqTypes 45 60 x (.pointer (some ⟨q, 0, none⟩)) (by decide) w
  obtain ⟨i, hi, hcmp⟩ := Option.map_eq_some_iff.1 (show (Tryd.prog.info? 60).map (·.comparable) = some true by kernel_rfl)
  obtain ⟨j0, hj, hjs⟩ := Option.map_eq_some_iff.1 (show (Tryd.prog.info? 62).map (·.size) = some 1 by kernel_rfl)
  have eS := fun w => run_eql_iface_ptr_same (P := Tryd.prog) w ⟨q, 0, none⟩ Tryd.underlying25 Tryd.underlying60 hi hcmp hj
  obtain ⟨_, _, c2⟩ := cells3 hb
  clear hb
  go_enter Tryd.func25, Tryd.ntmps25
  go_wp2
  refine wp_loop_rounds 2 ?_
  rw [rounds_succ]
  go_wp2_with (first | (go_at_call 70; refine (faultIs_plain b _ _).mono ?_; rintro e w' ⟨rfl, j1, rfl⟩) | (go_at_call 71; refine (faultUnwrap b (plainVal q) _ (by exact c2)).mono ?_; rintro e w' ⟨rfl, rfl⟩))
  rw [rounds_succ]
  go_wp2
  go_ret
  exact ⟨rfl, _, rfl⟩

theorem Is_plain (b q : Nat) (s : ByteArray) (p : Int) (w : World) (hb : w.heap[b]? = some (faultCells s p (plainVal q))) :
    Calls Tryd.prog 14 #[faultVal b, plainVal q] w fun e w' => e = .returned (.bool true) ∧ ∃ k, w' = w.drewN k := by
  have c := isLoop_plain b q s p w hb
  have h1 := xTypeOf
  have h2 := callComparablePlain
  have h3 := typeOfPlain
  clear hb
  go_enter Tryd.func14, Tryd.ntmps14
  go_wp2_with (go_at_call 25; refine c.mono ?_; rintro e w' ⟨rfl, k, rfl⟩)
  go_ret
  exact ⟨rfl, _, rfl⟩

theorem faultWord_one (s : ByteArray) : faultWord s 1 ⟨#[110, 111, 116, 104, 105, 110, 103]⟩ = s ++ ⟨#[32, 49, 58, 32, 110, 111, 116, 104, 105, 110, 103]⟩ := by
  unfold faultWord
  apply ByteArray.ext
  simp [ByteArray.data_append]

set_option maxRecDepth 100000 in
set_option maxHeartbeats 2000000 in
theorem none_any (step wd : ByteArray) (p : Int) (w : World) (hg : errorTypeLaid w) :
    Calls Tryd.prog 5 #[.string step, .string wd, .int .i64 p] w fun e w' => e = .returned (.bool true) ∧ Below w.heap.size w w' := by
  have c1 := awake_any w hg
  have HG := Lib.hid hg
  clear hg
  go_enter Tryd.func5, Tryd.ntmps5
  go_wp2_with fail
  refine (Cut_any step 10 w).mono ?_
  rintro e w0 ⟨rfl, hw⟩
  obtain rfl := hw.symm
  clear hw
  have hs := cutTo_size step 10
  obtain ⟨cs, hcs⟩ : ∃ cs, cs = cutTo step 10 := ⟨_, rfl⟩
  rw [← hcs] at hs ⊢
  clear hcs
  go_wp2_with fail
  refine (Cut_any wd 10 w).mono ?_
  rintro e w0 ⟨rfl, hw⟩
  obtain rfl := hw.symm
  clear hw
  obtain ⟨cw, hcw⟩ : ∃ cw, cw = cutTo wd 10 := ⟨_, rfl⟩
  rw [← hcw]
  clear hcw
  go_upto_region 4 with (go_at_call 7; refine c1.mono ?_; rintro e w1 ⟨rfl, hb1⟩)
  have HB1 := Lib.hid hb1; clear hb1
  go_wp2_with fail
  refine (New_any cw w1).mono ?_
  rintro e w2 ⟨rfl, hb2⟩
  have HB2 := Lib.hid (HB1.out.trans (hb2.mono HB1.out.size)); clear hb2
  obtain ⟨q, hq⟩ : ∃ q, q = w1.heap.size := ⟨_, rfl⟩
  rw [← hq]
  clear hq
  go_wp2_with fail
  refine (In_any cs p (plainVal q) (.plain ⟨q, 0, none⟩) [] w2 trivial .base).mono ?_
  rintro e w3 ⟨rfl, hw3, hc3⟩
  have hblk : w3.heap[w2.heap.size]? = some (faultCells cs p (plainVal q)) := by rw [hw3]; exact heap_new w2 _
  have hb3 : Below w2.heap.size w2 w3 := by rw [hw3]; exact (Below.refl _ _).alloc (Nat.le_refl _) _
  have HB3 := Lib.hid (HB2.out.trans (hb3.mono HB2.out.size))
  obtain ⟨b, hb⟩ : ∃ b, b = w2.heap.size := ⟨_, rfl⟩
  rw [← hb] at hblk hc3 ⊢
  clear hb hw3 hb3
  have HK3 := Lib.hid hblk; have HC3 := Lib.hid hc3
  clear hblk hc3
  go_upto_region 7 with (fail)
  obtain ⟨w4, hw4⟩ : ∃ w4, w4 = w3.alloc (faultCells cs 1 .nilIface) := ⟨_, rfl⟩
  have hk4 : w4.heap[w3.heap.size]? = some (faultCells cs 1 .nilIface) := by rw [hw4]; exact heap_new w3 _
  have hb4 : Below w3.heap.size w3 w4 := by rw [hw4]; exact (Below.refl _ _).alloc (Nat.le_refl _) _
  rw [← hw4]
  clear hw4
  obtain ⟨c, hc⟩ : ∃ c, c = w3.heap.size := ⟨_, rfl⟩
  rw [← hc] at hk4 ⊢
  have HB4 := Lib.hid (HB3.out.trans (hb4.mono HB3.out.size))
  have HE4 := Lib.hid (HC3.out.under hb4)
  have HK4 := Lib.hid hk4
  have HF4 := Lib.hid ((hb4.block b (Array.getElem?_eq_some_iff.1 HK3.out).1).trans HK3.out)
  have HG4 := Lib.hid (show errorTypeLaid w4 from (HB4.out.cell (block_lt HG.out)).trans HG.out)
  have hblt : b < w4.heap.size := (Array.getElem?_eq_some_iff.1 HF4.out).1
  have hclt : c < w4.heap.size := (Array.getElem?_eq_some_iff.1 hk4).1
  clear hk4 hb4 hc
  go_wp2_with fail
  refine (Where_chain .nilIface [] .none w4 (by simp) HG4.out .base).mono ?_
  rintro e w5 ⟨lv, rfl, hlv, hb5⟩
  obtain ⟨la, lc, rfl⟩ := owns_shape hlv
  have HB5 := Lib.hid hb5
  have hla : lastAt [] = -1 := rfl
  rw [hla]
  clear hlv hb5 hla
  go_wp2_with fail
  refine (In_nil cs p w5).mono ?_
  rintro e w6 ⟨rfl, hw⟩
  obtain rfl := hw.symm
  clear hw
  go_wp2_with fail
  refine (Of_nil w5).mono ?_
  rintro e w6 ⟨rfl, hw⟩
  obtain rfl := hw.symm
  clear hw
  go_wp2_with fail
  refine (Of_plain (faultVal b) [(cs, p)] ⟨q, 0, none⟩ w5 ((HB5.out.cell (block_lt HG4.out)).trans HG4.out) (HE4.out.under HB5.out)).mono ?_
  rintro e w6 ⟨rfl, hb6⟩
  have HB6 := Lib.hid (HB5.out.trans (hb6.mono HB5.out.size)); clear hb6
  go_wp2_with fail
  refine (Is_plain b q cs p w6 ((HB6.out.block b hblt).trans HF4.out)).mono ?_
  rintro e w7 ⟨rfl, k1, hw7⟩
  have HB7 := Lib.hid (show Below w4.heap.size w4 w7 by rw [hw7]; exact below_drewN HB6.out _)
  clear hw7
  go_wp2_with fail
  refine (Error_bare c cs 1 w7 (by omega) (by omega) ((HB7.out.block c hclt).trans HK4.out)).mono ?_
  rintro e w8 ⟨rfl, k2, hw8⟩
  have HB8 := Lib.hid (show Below w4.heap.size w4 w8 by rw [hw8]; exact below_drewN HB7.out _)
  rw [faultWord_one]
  clear hw8
  go_wp2_with fail
  refine (Within_chain (faultVal c) [(cs, 1)] .none cs w8 (by intro h; cases h) (.step _ _ _ _ _ ((HB8.out.block c hclt).trans HK4.out) .base)).mono ?_
  rintro e w9 ⟨rfl, hb9⟩
  have hwi : within cs [(cs, 1)] = true := by simp [within]
  rw [hwi]
  have HB9 := Lib.hid (HB8.out.trans (hb9.mono HB8.out.size)); clear hb9 hwi
  go_wp2_with fail
  refine (Within_chain (plainVal q) [] (.plain ⟨q, 0, none⟩) cs w9 (by intro h; cases h) .base).mono ?_
  rintro e w10 ⟨rfl, hb10⟩
  have hwi : within cs [] = false := rfl
  rw [hwi]
  have HB10 := Lib.hid (HB9.out.trans (hb10.mono HB9.out.size)); clear hb10 hwi
  go_wp2
  go_ret
  exact ⟨rfl, HB4.out.trans (HB10.out.mono HB4.out.size)⟩
end Go.Proofs.YtmkcpcndfddhoaaDoor

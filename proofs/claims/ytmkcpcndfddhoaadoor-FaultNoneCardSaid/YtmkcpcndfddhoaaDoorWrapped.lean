/-
  The statements' own small functions: number, Cut, wrapped.
-/
import Derived.Test.YtmkcpcndfddhoaaDoorError
import Derived.StillTailTactics
import Derived.Deep.RegionHeld3
import Derived.Deep.RegionWith
import Derived.Deep.AppendLies
namespace Go.Proofs.YtmkcpcndfddhoaaDoor
open Go.RowKit Go.Extern.Stop Go.Stop Go.Extern

def numberOf (n : Int) : Int := 1 + n.tmod 20 % 20
theorem numberOf_in (n : Int) : 1 ≤ numberOf n ∧ numberOf n ≤ 20 := by unfold numberOf; omega
theorem number_any (n : Int) (w : World) :
    Calls Tryd.prog 17 #[.int .i64 n] w fun e w' => e = .returned (.int .i64 (numberOf n)) ∧ w' = w := by
  have h1 : -20 < n.tmod 20 := Int.lt_tmod_of_pos n (by decide)
  have h2 : n.tmod 20 < 20 := Int.tmod_lt_of_pos n (by decide)
  go_enter Tryd.func17, Tryd.ntmps17
  go_wp2
  go_ret
  exact ⟨rfl, rfl⟩

/-- At most so many bytes. -/
def cutTo (s : ByteArray) (n : Nat) : ByteArray := if n < s.size then s.extract 0 n else s
theorem cutTo_size (s : ByteArray) (n : Nat) : (cutTo s n).size ≤ n := by
  unfold cutTo; split
  · simp; omega
  · omega
theorem Cut_any (s : ByteArray) (n : Nat) (w : World) :
    Calls Tryd.prog 9 #[.string s, .int .i64 n] w fun e w' => e = .returned (.string (cutTo s n)) ∧ w' = w := by
  by_cases h : n < s.size
  · have hf : cutTo s n = s.extract 0 n := by unfold cutTo; rw [if_pos h]
    rw [hf]; clear hf
    go_enter Tryd.func9, Tryd.ntmps9
    go_wp2
    go_ret
    exact ⟨rfl, rfl⟩
  · have hf : cutTo s n = s := by unfold cutTo; rw [if_neg h]
    rw [hf]; clear hf
    go_enter Tryd.func9, Tryd.ntmps9
    go_wp2
    go_ret
    exact ⟨rfl, rfl⟩

/-- The statement's steps, as they lie in a slice that came in. -/
structure Steps (w : World) (v : Value) (l : List (ByteArray × Int)) : Prop where
  len : l.length ≤ 9223372036854775807
  shape : (l = [] ∧ ∃ a c, v = .slice a 0 c) ∨ ∃ b off c, v = .slice (some ⟨b, off, none⟩) l.length c ∧ ∀ k s p, l[k]? = some (s, p) → w.cell? ⟨b, off + k * 2, none⟩ = some (.string s) ∧ w.cell? ⟨b, off + k * 2 + 1, none⟩ = some (.int .i64 p)

/-- A step as the statement keeps it. -/
def kept (x : ByteArray × Int) : ByteArray × Int := (cutTo x.1 10, max x.2 (-4611686018427387904))
def fewOf (l : List (ByteArray × Int)) : List (ByteArray × Int) := (l.take 6).map kept
def stepCells (l : List (ByteArray × Int)) : List Value := l.flatMap fun x => [.string x.1, .int .i64 x.2]
theorem stepCells_length (l : List (ByteArray × Int)) : (stepCells l).length = l.length * 2 := by
  induction l with
  | nil => rfl
  | cons a r ih => simp [stepCells] at ih ⊢; omega

theorem stepCells_take (l : List (ByteArray × Int)) (j : Nat) (s : ByteArray) (p : Int) (h : l[j]? = some (s, p)) :
    stepCells ((l.take (j + 1)).map kept) = stepCells ((l.take j).map kept) ++ [.string (cutTo s 10), .int .i64 (max p (-4611686018427387904))] := by
  rw [List.take_add_one, h]
  simp [stepCells, kept]

theorem stepCells_get (l : List (ByteArray × Int)) (k : Nat) (s : ByteArray) (p : Int) (h : l[k]? = some (s, p)) : (stepCells l)[k * 2]? = some (.string s) ∧ (stepCells l)[k * 2 + 1]? = some (.int .i64 p) := by
  induction l generalizing k with
  | nil => simp at h
  | cons a r ih =>
    cases k with
    | zero => simp at h; subst h; simp [stepCells]
    | succ k =>
      have := ih k (by simpa using h)
      simpa [stepCells, Nat.succ_mul] using this

theorem stepInfo : (Tryd.prog.info? 39).map (fun i => (i.zero, i.size, i.bytes)) = some (some (.agg #[.string ⟨#[]⟩, .int .i64 0]), 2, 24) := by kernel_rfl

def WrappedPost (w : World) (l : List (ByteArray × Int)) (n : Int) (e : Ending) (w' : World) : Prop :=
  ∃ v fv, e = .returned (.tuple #[v, fv]) ∧ Chain w' (.num (numberOf n)) v (fewOf l) ∧ w'.ownsRow w.heap.size 39 2 fv (fewOf l).length (stepCells (fewOf l)) ∧ Below w.heap.size w w'

set_option maxRecDepth 100000 in
set_option maxHeartbeats 1000000 in
theorem wrapped_some (b off c : Nat) (l : List (ByteArray × Int)) (n : Int) (w : World) (hl : l.length ≤ 9223372036854775807)
    (hcs : ∀ k s p, l[k]? = some (s, p) → w.cell? ⟨b, off + k * 2, none⟩ = some (.string s) ∧ w.cell? ⟨b, off + k * 2 + 1, none⟩ = some (.int .i64 p)) :
    Calls Tryd.prog 8 #[.slice (some ⟨b, off, none⟩) l.length c, .int .i64 n] w (WrappedPost w l n) := by
  obtain ⟨i0, hi, hz0, hz1, hz2⟩ := info_parts stepInfo
  have HCS := Lib.hid hcs
  clear hcs
  obtain ⟨B, hB⟩ : ∃ B, B = w.heap.size := ⟨_, rfl⟩
  have HB := Lib.hid hB
  clear hB
  go_enter Tryd.func8, Tryd.ntmps8
  go_wp2
  go_loopg [6, 7] 6 (fun k o i wr => Hid (∃ j g cap : Nat, j ≤ 6 ∧ j ≤ l.length ∧ 6 - j = k ∧ i = .int .i64 j ∧ o = .slice (some ⟨g, 0, none⟩) j cap ∧ wr.ownsRow B 39 2 o j (stepCells ((l.take j).map kept)) ∧ Below B w wr))
  case atStart =>
    refine Lib.hid ⟨0, w.heap.size, 0, by omega, by omega, by omega, rfl, rfl, ?_, ?_⟩
    · rw [HB.out]; exact World.ownsRow_made w #[] 0 (Nat.le_refl _) (by unfold maxLen; omega) rfl
    · rw [HB.out]; exact (Below.refl _ _).alloc (Nat.le_refl _) _
  case round =>
    obtain ⟨j, g, cap, hj6, hjl, hjk, rfl, rfl, hown, hbl⟩ := hrel.out
    have HK := Lib.hid hjk; clear hjk hrel
    have HBL := Lib.hid hbl
    have hBs : B ≤ wr.heap.size := by rw [HB.out]; exact HBL.out.size
    have hgB : B ≤ g ∧ g < wr.heap.size := hown.lt g rfl
    clear hbl
    by_cases hgo : j < l.length ∧ j < 6
    · obtain ⟨hlt, hlt6⟩ := hgo
      obtain ⟨s, p, hsp⟩ : ∃ s p, l[j]? = some (s, p) := ⟨l[j].1, l[j].2, by simp [hlt]⟩
      obtain ⟨c0, c1⟩ := HCS.out j s p hsp
      have HSP := Lib.hid hsp; clear hsp
      have hbB : b < B := by rw [HB.out]; exact block_lt c0
      have d0 := (HBL.out.cell (p := ⟨b, off + j * 2, none⟩) hbB).trans c0
      have d1 := (HBL.out.cell (p := ⟨b, off + j * 2 + 1, none⟩) hbB).trans c1
      have hbw : b < wr.heap.size := block_lt d0
      have hne : (Value.slice (some ⟨g, 0, none⟩) j cap).ownBlock ≠ some b := by
        intro e; simp [Value.ownBlock] at e; omega
      clear c0 c1 hbB
      go_wp2_with fail
      go_region_held3 (fun w' => w'.cell? ⟨b, off + j * 2, none⟩ = some (.string s) ∧ w'.cell? ⟨b, off + j * 2 + 1, none⟩ = some (.int .i64 p))
        (first
          | go_keep
          | (go_split_ands
             refine ⟨?_, ?_⟩
             · (rw [hgrow.cell_far _ (by simp; omega) (Ne.symm hne)]; assumption)
             · (rw [hgrow.cell_far _ (by simp; omega) (Ne.symm hne)]; assumption)))
        ((first
          | (refine step_append_lies _ (by rfl) _ _ _ (by rfl) B 39 i0 _ 2 24 Tryd.underlying22 hi hz0 hz1 hz2 rfl (by omega) (.slice (some ⟨g, 0, none⟩) j cap) j (stepCells ((l.take j).map kept)) (by rfl) ((hown.alloc _).drew)
              ⟨wr.heap.size, 0, none⟩ 1 1 [.string (cutTo s 10), .int .i64 (max p (-4611686018427387904))] (by rfl) (by rfl) (World.news_of_block (cs := #[.string (cutTo s 10), .int .i64 (max p (-4611686018427387904))]) (t := 39) (fr := (0, 0)) (heap_alloc_new wr _)) (by simp [Value.oneCell'])
              (by omega) (by unfold maxLen; omega) (by omega) (by simp; omega) (wr.heap.size + 1) (by simp) ?_; intro gg cap w1 hown1 hgrow hat hlt)
          | (go_at_call 9; refine (Cut_any s 10 _).mono ?_; rintro e w' ⟨rfl, rfl⟩)))
      all_goals
        go_wp2
        go_roundg (6 - (j + 1))
        case rel =>
          refine Lib.hid ⟨j + 1, gg, _, by omega, by omega, rfl, by go_num, rfl, ?_, ?_⟩
          · rw [stepCells_take l j s p HSP.out]; exact hown1
          · exact ((HBL.out.alloc hBs _).drew).grown hgrow (by simp; omega) (fun k hk => (hown.lt k hk).1)
        case measure => have := HK.out; omega
    · have hjm : (fewOf l).length = j := by simp [fewOf]; omega
      have hjf : (l.take j).map kept = fewOf l := by
        unfold fewOf
        rcases Nat.lt_or_ge j 6 with h | h
        · have hh : l.length ≤ j := by omega
          rw [List.take_of_length_le hh, List.take_of_length_le (by omega)]
        · obtain rfl : j = 6 := by omega
          rfl
      rw [hjf] at hown
      have HJM := Lib.hid hjm; have HJF := Lib.hid hjf; clear hjm hjf
      obtain ⟨wo, rfl⟩ : ∃ wo : World, wo = wr := ⟨_, rfl⟩
      have hnum := (number_any n wo).mono (R' := fun e w' => e = .returned (.int .i64 (numberOf n)) ∧ wo = w') fun e w' h => ⟨h.1, h.2.symm⟩
      have hway : (j < l.length ∧ 6 ≤ j) ∨ ¬ j < l.length := by omega
      clear hgo
      have HOWN := Lib.hid hown
      rcases hway with ⟨hlt, h6⟩ | hlt
      all_goals
        go_wp2_with (go_at_call 17; refine hnum.mono ?_; rintro e w' ⟨rfl, rfl⟩)
        go_loopg [8, 9] j (fun k v i wl => Hid (∃ q : Int, i = .int .i64 q ∧ q = (k : Int) - 1 ∧ k ≤ j ∧ Chain wl (.num (numberOf n)) v ((fewOf l).drop k) ∧ Below wo.heap.size wo wl))
        case atStart =>
          refine Lib.hid ⟨_, rfl, by omega, Nat.le_refl _, ?_, Below.refl _ _⟩
          rw [List.drop_of_length_le (by rw [HJM.out]; omega)]
          exact .base
        case round =>
          obtain ⟨q, rfl, hq, hkj, hch, hbw2⟩ := hrel.out
          have HCH := Lib.hid hch; have HB3 := Lib.hid hbw2; clear hch hrel hbw2
          rcases Nat.eq_zero_or_pos gk with hk0 | hpos
          · have hq0 : q < 0 := by omega
            clear hq
            go_wp2
            go_ret2
            have hch := HCH.out
            rw [hk0, List.drop_zero] at hch
            refine ⟨_, _, rfl, hch, ?_, ?_⟩
            · rw [← HB.out, HJM.out]; exact owns_below HOWN.out HB3.out
            · rw [← HB.out]; exact HBL.out.trans (HB3.out.mono hBs)
          · obtain ⟨k, rfl⟩ : ∃ k, gk = k + 1 := ⟨gk - 1, by omega⟩
            obtain rfl : q = (k : Int) := by omega
            clear hq hpos
            have i0 : (0 : Int) ≤ (k : Int) := by omega
            have i1 : (k : Int) < (j : Int) := by omega
            obtain ⟨s, p, hsp⟩ : ∃ s p, (fewOf l)[k]? = some (s, p) := ⟨((fewOf l)[k]'(by rw [HJM.out]; omega)).1, ((fewOf l)[k]'(by rw [HJM.out]; omega)).2, by rw [List.getElem?_eq_getElem (by rw [HJM.out]; omega)]⟩
            have hcell := HOWN.out.cells (g := g) rfl
            have hsc := stepCells_get _ k s p hsp
            have e0 := hcell _ _ hsc.1
            have e1 := hcell _ _ hsc.2
            have hadd : ∀ n, (⟨g, 0, none⟩ : Addr).add n = ⟨g, n, none⟩ := by intro n; unfold Addr.add; split <;> simp_all
            rw [hadd] at e0 e1
            have f0 := (HB3.out.cell (p := ⟨g, k * 2, none⟩) hgB.2).trans e0
            have f1 := (HB3.out.cell (p := ⟨g, k * 2 + 1, none⟩) hgB.2).trans e1
            have HSP := Lib.hid hsp
            have hcI := fun W (h : Chain W (.num (numberOf n)) u8 ((fewOf l).drop (k + 1))) => In_any s p u8 (.num (numberOf n)) ((fewOf l).drop (k + 1)) W (by show numberOf n ≠ 0; have := numberOf_in n; omega) h
            have HCI := Lib.hid hcI
            clear hcell hsc e0 e1 hadd hsp hcI
            go_wp2_with fail
            go_region_held3 (fun w' => w'.cell? ⟨g, k * 2, none⟩ = some (.string s) ∧ w'.cell? ⟨g, k * 2 + 1, none⟩ = some (.int .i64 p))
              (first
                | go_keep
                | (go_split_ands; exact ⟨cell_old _ _ _ _ (by assumption), cell_old _ _ _ _ (by assumption)⟩))
              ((go_at_call 10; refine (HCI.out _ (HCH.out.drewN 1)).mono ?_; rintro e w' ⟨rfl, rfl, hch2⟩))
            all_goals
              go_wp2
              go_roundg k
              case rel =>
                refine Lib.hid ⟨_, rfl, rfl, by omega, ?_, ?_⟩
                · have hk : k < (fewOf l).length := by rw [HJM.out]; omega
                  have hd := HSP.out
                  rw [List.getElem?_eq_getElem hk] at hd
                  rw [List.drop_eq_getElem_cons hk, Option.some.inj hd]
                  exact hch2
                · exact (HB3.out.drew).alloc (by have := HB3.out.size; simpa using this) _
              case measure => omega
end Go.Proofs.YtmkcpcndfddhoaaDoor

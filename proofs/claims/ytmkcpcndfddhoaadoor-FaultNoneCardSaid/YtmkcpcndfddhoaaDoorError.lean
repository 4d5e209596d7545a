/-
  A fault's word, where the places are digits.
-/
import Derived.Test.YtmkcpcndfddhoaaDoorPath
namespace Go.Proofs.YtmkcpcndfddhoaaDoor
open Go.RowKit Go.Extern.Stop Go.Stop Go.Extern

theorem Itoa_digit (p : Nat) (hp : p < 10) (w : World) :
    Calls Tryd.prog 26 #[.int .i64 p] w fun e w' => e = .returned (.string ⟨#[UInt8.ofNat (48 + p)]⟩) ∧ w' = w :=
  (Tryd.strconv_Itoa_small p (by omega) w).mono fun e w' ⟨a, b⟩ => ⟨by rw [a, Lib.decDigits_one hp], b⟩

/-- A fault's word, around that of what stands behind it. -/
def faultWord (s : ByteArray) (p : Nat) (t : ByteArray) : ByteArray := s ++ ⟨#[32]⟩ ++ ⟨#[UInt8.ofNat (48 + p)]⟩ ++ ⟨#[58, 32]⟩ ++ t

set_option maxRecDepth 100000 in
theorem Error_bare (b : Nat) (s : ByteArray) (p : Nat) (w : World) (hp : p < 10) (hs : s.size ≤ 1000000) (hb : w.heap[b]? = some (faultCells s p .nilIface)) :
    Calls Tryd.prog 19 #[.pointer (some ⟨b, 0, none⟩)] w fun e w' => e = .returned (.string (faultWord s p ⟨#[110, 111, 116, 104, 105, 110, 103]⟩)) ∧ ∃ k, w' = w.drewN k := by
  obtain ⟨c0, c1, c2⟩ := cells3 hb
  have c := Itoa_digit p hp
  obtain ⟨d, hd⟩ : ∃ d, d = UInt8.ofNat (48 + p) := ⟨_, rfl⟩
  unfold faultWord
  rw [← hd] at c ⊢
  clear hb hd
  go_enter Tryd.func19, Tryd.ntmps19
  go_wp2
  go_quiet ((go_at_call 26; exact Calls.quiet_of_same (c _)))
  go_wp2
  go_ret
  exact ⟨rfl, _, rfl⟩

theorem wordSize (n : Int) : (word n).size ≤ 10 := by
  by_cases h : 1 ≤ n ∧ n ≤ 20
  · obtain ⟨k, hk⟩ := Int.eq_ofNat_of_zero_le (show 0 ≤ n - 1 by omega)
    have hn : n = (k : Int) + 1 := by omega
    subst hn
    have hlt : k < 20 := by omega
    rw [word_in k hlt]
    have : k = 0 ∨ k = 1 ∨ k = 2 ∨ k = 3 ∨ k = 4 ∨ k = 5 ∨ k = 6 ∨ k = 7 ∨ k = 8 ∨ k = 9 ∨ k = 10 ∨ k = 11 ∨ k = 12 ∨ k = 13 ∨ k = 14 ∨ k = 15 ∨ k = 16 ∨ k = 17 ∨ k = 18 ∨ k = 19 := by omega
    rcases this with rfl | rfl | rfl | rfl | rfl | rfl | rfl | rfl | rfl | rfl | rfl | rfl | rfl | rfl | rfl | rfl | rfl | rfl | rfl | rfl <;> decide
  · rw [word_out n h]; decide

set_option maxRecDepth 100000 in
theorem Error_num (b : Nat) (s : ByteArray) (p : Nat) (n : Int) (w : World) (hp : p < 10) (hs : s.size ≤ 1000000) (hb : w.heap[b]? = some (faultCells s p (.iface 33 (.int .i64 n)))) :
    Calls Tryd.prog 19 #[.pointer (some ⟨b, 0, none⟩)] w fun e w' => e = .returned (.string (faultWord s p (word n))) ∧ Below w.heap.size w w' := by
  obtain ⟨c0, c1, c2⟩ := cells3 hb
  have c := Itoa_digit p hp
  have hq := wordSize n
  obtain ⟨q, hq'⟩ : ∃ q, q = word n := ⟨_, rfl⟩
  have hW := Word_any n w
  rw [← hq'] at hq hW ⊢
  obtain ⟨d, hd⟩ : ∃ d, d = UInt8.ofNat (48 + p) := ⟨_, rfl⟩
  unfold faultWord
  rw [← hd] at c ⊢
  have hbl : b < w.heap.size := (Array.getElem?_eq_some_iff.1 hb).1
  have Hb := Lib.hid hb
  clear hb hd hq'
  go_enter Tryd.func19, Tryd.ntmps19
  go_upto_region 4 with (go_at_call 23; refine hW.mono ?_; rintro e w1 ⟨rfl, hb1⟩)
  obtain ⟨d0, d1, d2⟩ := cells3 ((hb1.block b hbl).trans Hb.out)
  go_quiet ((go_at_call 26; exact Calls.quiet_of_same (c _)))
  go_wp2
  go_ret
  exact ⟨rfl, below_drewN hb1 _⟩

set_option maxRecDepth 100000 in
theorem Error_fault (b b' : Nat) (s t : ByteArray) (p : Nat) (w : World) (hp : p < 10) (hs : s.size ≤ 1000000) (ht : t.size ≤ 1000000) (hb : w.heap[b]? = some (faultCells s p (faultVal b')))
    (hin : Calls Tryd.prog 19 #[.pointer (some ⟨b', 0, none⟩)] w fun e w' => e = .returned (.string t) ∧ Below w.heap.size w w') :
    Calls Tryd.prog 19 #[.pointer (some ⟨b, 0, none⟩)] w fun e w' => e = .returned (.string (faultWord s p t)) ∧ Below w.heap.size w w' := by
  obtain ⟨c0, c1, c2⟩ := cells3 hb
  have c := Itoa_digit p hp
  obtain ⟨d, hd⟩ : ∃ d, d = UInt8.ofNat (48 + p) := ⟨_, rfl⟩
  unfold faultWord
  rw [← hd] at c ⊢
  have hbl : b < w.heap.size := (Array.getElem?_eq_some_iff.1 hb).1
  have Hb := Lib.hid hb
  have HI := Lib.hid hin
  clear hb hd hin
  go_enter Tryd.func19, Tryd.ntmps19
  go_upto_region 4 with (go_at_call 19; refine HI.out.mono ?_; rintro e w1 ⟨rfl, hb1⟩)
  obtain ⟨d0, d1, d2⟩ := cells3 ((hb1.block b hbl).trans Hb.out)
  go_quiet ((go_at_call 26; exact Calls.quiet_of_same (c _)))
  go_wp2
  go_ret
  exact ⟨rfl, below_drewN hb1 _⟩

/-- A chain's word, where the places are digits. -/
def errWord : List (ByteArray × Nat) → Int → ByteArray
  | [], n => word n
  | (s, p) :: l, n => faultWord s p (errWord l n)

theorem drewN_below {B : Nat} {w w1 w2 : World} (h : Below B w w1) (k : Nat) (h2 : w2 = w1.drewN k) : Below B w w2 := by subst h2; exact below_drewN h k
end Go.Proofs.YtmkcpcndfddhoaaDoor

/-
  An error number's word.
-/
import Derived.Test.YtmkcpcndfddhoaaDoorIs
namespace Go.Proofs.YtmkcpcndfddhoaaDoor
open Go.RowKit Go.Extern.Stop Go.Stop Go.Extern

/-- The words of the numbers from 1 on. -/
def words : List ByteArray := [⟨#[101, 110, 100]⟩, ⟨#[102, 111, 114, 109]⟩, ⟨#[98, 105, 103]⟩, ⟨#[97, 114, 103]⟩, ⟨#[107, 105, 110, 100]⟩, ⟨#[114, 97, 110, 103, 101]⟩, ⟨#[102, 117, 108, 108]⟩, ⟨#[110, 111, 110, 101]⟩, ⟨#[116, 104, 101, 114, 101]⟩, ⟨#[111, 118, 101, 114, 102, 108, 111, 119]⟩, ⟨#[115, 104, 111, 114, 116]⟩, ⟨#[112, 114, 111, 111, 102]⟩, ⟨#[102, 117, 116, 117, 114, 101]⟩, ⟨#[112, 114, 117, 110, 101, 100]⟩, ⟨#[98, 114, 97, 110, 99, 104]⟩, ⟨#[117, 110, 100, 111, 110, 101]⟩, ⟨#[102, 105, 120, 101, 100]⟩, ⟨#[99, 111, 110, 102, 108, 105, 99, 116]⟩, ⟨#[100, 105, 118, 101, 114, 103, 101, 100]⟩, ⟨#[98, 117, 115, 121]⟩]
/-- A number's word. -/
def word (n : Int) : ByteArray := if 1 ≤ n ∧ n ≤ 20 then words.getD (n.toNat - 1) ⟨#[]⟩ else ⟨#[111, 107]⟩
theorem word_in (k : Nat) (h : k < 20) : word ((k : Int) + 1) = words.getD k ⟨#[]⟩ := by
  unfold word
  rw [if_pos (by omega)]
  congr 1
theorem word_out (n : Int) (h : ¬ (1 ≤ n ∧ n ≤ 20)) : word n = ⟨#[111, 107]⟩ := by unfold word; rw [if_neg h]

abbrev wordCells : Obj := .cells #[.int .i64 1, .string ⟨#[101, 110, 100]⟩, .int .i64 2, .string ⟨#[102, 111, 114, 109]⟩, .int .i64 3, .string ⟨#[98, 105, 103]⟩, .int .i64 4, .string ⟨#[97, 114, 103]⟩, .int .i64 5, .string ⟨#[107, 105, 110, 100]⟩, .int .i64 6, .string ⟨#[114, 97, 110, 103, 101]⟩, .int .i64 7, .string ⟨#[102, 117, 108, 108]⟩, .int .i64 8, .string ⟨#[110, 111, 110, 101]⟩, .int .i64 9, .string ⟨#[116, 104, 101, 114, 101]⟩, .int .i64 10, .string ⟨#[111, 118, 101, 114, 102, 108, 111, 119]⟩, .int .i64 11, .string ⟨#[115, 104, 111, 114, 116]⟩, .int .i64 12, .string ⟨#[112, 114, 111, 111, 102]⟩, .int .i64 13, .string ⟨#[102, 117, 116, 117, 114, 101]⟩, .int .i64 14, .string ⟨#[112, 114, 117, 110, 101, 100]⟩, .int .i64 15, .string ⟨#[98, 114, 97, 110, 99, 104]⟩, .int .i64 16, .string ⟨#[117, 110, 100, 111, 110, 101]⟩, .int .i64 17, .string ⟨#[102, 105, 120, 101, 100]⟩, .int .i64 18, .string ⟨#[99, 111, 110, 102, 108, 105, 99, 116]⟩, .int .i64 19, .string ⟨#[100, 105, 118, 101, 114, 103, 101, 100]⟩, .int .i64 20, .string ⟨#[98, 117, 115, 121]⟩] 84
theorem wordCell {W : World} {b : Nat} (h : W.heap[b]? = some wordCells) (k : Nat) (hk : k < 20) : W.cell? ⟨b, k * 2, none⟩ = some (.int .i64 ((k : Int) + 1)) ∧ W.cell? ⟨b, k * 2 + 1, none⟩ = some (.string (words.getD k ⟨#[]⟩)) := by
  simp only [World.cell?, h]
  have : k = 0 ∨ k = 1 ∨ k = 2 ∨ k = 3 ∨ k = 4 ∨ k = 5 ∨ k = 6 ∨ k = 7 ∨ k = 8 ∨ k = 9 ∨ k = 10 ∨ k = 11 ∨ k = 12 ∨ k = 13 ∨ k = 14 ∨ k = 15 ∨ k = 16 ∨ k = 17 ∨ k = 18 ∨ k = 19 := by omega
  rcases this with rfl | rfl | rfl | rfl | rfl | rfl | rfl | rfl | rfl | rfl | rfl | rfl | rfl | rfl | rfl | rfl | rfl | rfl | rfl | rfl <;> exact ⟨rfl, rfl⟩

set_option maxRecDepth 100000 in
set_option maxHeartbeats 1000000 in
theorem Word_any (n : Int) (w : World) :
    Calls Tryd.prog 23 #[.int .i64 n] w fun e w' => e = .returned (.string (word n)) ∧ Below w.heap.size w w' := by
  obtain ⟨W, hW⟩ : ∃ W, W = w.alloc wordCells := ⟨_, rfl⟩
  have hb : W.heap[w.heap.size]? = some wordCells := hW ▸ heap_new w _
  have hbl : Below w.heap.size w W := hW ▸ (Below.refl _ _).alloc (Nat.le_refl _) _
  have hs : W.heap.size = w.heap.size + 1 := by rw [hW]; simp
  obtain ⟨B, hB⟩ : ∃ B, B = w.heap.size := ⟨_, rfl⟩
  go_enter Tryd.func23, Tryd.ntmps23
  go_wp2
  rw [← hW, ← hB]
  have HW := Lib.hid hW; have Hb := Lib.hid hb; have Hbl := Lib.hid hbl; have Hs := Lib.hid hs; have HB := Lib.hid hB
  clear hW hb hbl hs hB
  go_loopg [27] 20 (fun k i wr => Hid (∃ j : Nat, j ≤ 20 ∧ 20 - j = k ∧ i = .int .i64 j ∧ (∀ m : Nat, m < j → n ≠ (m : Int) + 1) ∧ Below W.heap.size W wr))
  case atStart => exact Lib.hid ⟨0, by omega, by omega, rfl, fun m hm => by omega, Below.refl _ _⟩
  case round =>
    obtain ⟨j, hj, hjk, rfl, hno, hbw⟩ := hrel.out
    have HK := Lib.hid hjk; have HN := Lib.hid hno; have HB2 := Lib.hid hbw; clear hjk hno hrel hbw
    by_cases hlt : j < 20
    · have hbr : wr.heap[B]? = some wordCells := by rw [HB2.out.block B (by rw [Hs.out, HB.out]; omega), HB.out]; exact Hb.out
      obtain ⟨c0, c1⟩ := wordCell hbr j hlt
      have Hbr := Lib.hid hbr; clear hbr
      by_cases hn : (j : Int) + 1 = n
      · have hn' : ((j : Int) + 1 == n) = true := by simpa using hn
        have HNN := Lib.hid hn; clear hn
        go_wp2
        go_ret
        refine ⟨by rw [← HNN.out, word_in j hlt]; rfl, ?_⟩
        exact Hbl.out.trans ((HB2.out.mono (by rw [Hs.out]; omega)).alloc (by have := HB2.out.size; rw [Hs.out] at this; omega) _)
      · have hn' : ((j : Int) + 1 == n) = false := by simpa using hn
        have HNN := Lib.hid hn; clear hn
        go_wp2
        go_roundg (20 - (j + 1))
        case rel =>
          refine Lib.hid ⟨j + 1, by omega, rfl, by go_num, ?_, HB2.out.alloc HB2.out.size _⟩
          intro m hm
          rcases Nat.lt_or_ge m j with h | h
          · exact HN.out m h
          · obtain rfl : m = j := by omega
            exact fun e => HNN.out e.symm
        case measure => have := HK.out; omega
    · go_wp2
      go_ret
      refine ⟨?_, Hbl.out.trans (HB2.out.mono (by rw [Hs.out]; omega))⟩
      rw [word_out]
      · rfl
      · intro h
        refine HN.out (n.toNat - 1) (by omega) ?_
        omega
end Go.Proofs.YtmkcpcndfddhoaaDoor

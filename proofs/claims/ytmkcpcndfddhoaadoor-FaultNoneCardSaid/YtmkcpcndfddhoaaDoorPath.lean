/-
  fault.Path over any chain; errors.Unwrap.
-/
import Derived.Test.YtmkcpcndfddhoaaDoorWord
import Derived.Test.YtmkcpcndfddhoaaDoorShelf
namespace Go.Proofs.YtmkcpcndfddhoaaDoor
open Go.RowKit Go.Extern.Stop Go.Stop Go.Extern

/-- A path's bytes. -/
def pathOf (l : List (ByteArray × Int)) (n : Int) : List UInt8 := Lib.join (l.map (·.1.data.toList) ++ [(word n).data.toList]) [47]

theorem owns_below {w w' : World} {B e size n : Nat} {v : Value} {xs : List Value} (h : w.ownsRow B e size v n xs) (hb : Below w.heap.size w w') : w'.ownsRow B e size v n xs := by
  refine ⟨h.1, ?_⟩
  rcases h.2 with h2 | ⟨g, cap, cur, hv, hg, hh, r⟩
  · exact .inl h2
  · exact .inr ⟨g, cap, cur, hv, hg, by rw [hb.block g (Array.getElem?_eq_some_iff.1 hh).1]; exact hh, r⟩

theorem Join_own (B : Nat) (v : Value) (xs : List ByteArray) (sep : ByteArray) (w : World) (hown : w.ownsRow B 9 1 v xs.length (xs.map .string)) (hne : xs ≠ []) (hN : xs.length ≤ 140737488355328) (hlen : (Lib.join (xs.map (·.data.toList)) sep.data.toList).length ≤ 140737488355328) :
    Calls Tryd.prog 22 #[v, .string sep] w fun e w' => e = .returned (.string ⟨(Lib.join (xs.map (·.data.toList)) sep.data.toList).toArray⟩) ∧ Below w.heap.size w w' := by
  rcases hown.2 with ⟨_, h0⟩ | ⟨g, cap, cur, hv, hg, hh, hcap, _, _, _⟩
  · exact absurd (List.eq_nil_of_length_eq_zero h0) hne
  · subst hv
    refine Tryd.strings_Join g 0 cap xs sep w ?_ (Array.getElem?_eq_some_iff.1 hh).1 hN hcap hlen
    intro j x hx
    have := hown.cells (g := g) rfl j (.string x) (by simp [hx])
    have hadd : (⟨g, 0, none⟩ : Addr).add j = ⟨g, 0 + j, none⟩ := by unfold Addr.add; split <;> simp_all
    rw [hadd] at this
    exact this

/-- What fault.Path leaves. -/
def PathPost (w : World) (l : List (ByteArray × Int)) (n : Int) (e : Ending) (w' : World) : Prop :=
  e = .returned (.string ⟨(pathOf l n).toArray⟩) ∧ Below w.heap.size w w'

set_option maxRecDepth 100000 in
set_option maxHeartbeats 1000000 in
theorem Path_num (v : Value) (l : List (ByteArray × Int)) (n : Int) (w : World) (hl : l.length ≤ 1000000) (hb : (pathOf l n).length ≤ 140737488355328) (hg : errorTypeLaid w) (hc : Chain w (.num n) v l) :
    Calls Tryd.prog 13 #[v] w (PathPost w l n) := by
  obtain ⟨i0, hi, hz0, hz1, hz2⟩ := info_parts strInfo
  have c1 := Where_chain v l (.num n) w hl hg hc
  have HL := Lib.hid hl; have HBb := Lib.hid hb
  clear hl hb
  go_enter Tryd.func13, Tryd.ntmps13
  go_upto_region 2 with (go_at_call 11; refine c1.mono ?_; rintro e w1 ⟨sv, rfl, hown, hb1⟩)
  have hg1 : errorTypeLaid w1 := (hb1.cell (block_lt hg)).trans hg
  have c2 := Of_num v l n w1 hg1 (hc.under hb1)
  go_wp2_with fail
  refine c2.mono ?_
  rintro e w2 ⟨rfl, hb2⟩
  go_wp2_with fail
  refine (Word_any n w2).mono ?_
  rintro e w3 ⟨rfl, hb3⟩
  have hown3 : w3.ownsRow w.heap.size 9 1 sv l.length (stepVals l) := owns_below (owns_below hown hb2) hb3
  have HL2 := HL.out
  go_wp2_with (at_builtin; refine wpList_append_own _ rfl _ _ 30 rfl w.heap.size 9 i0 (.string ⟨#[]⟩) 1 16 Tryd.underlying30 hi hz0 hz1 hz2 rfl (by decide) _ _ _ rfl (hown3.alloc _) ⟨w3.heap.size, 0, none⟩ 1 1 [.string (word n)] rfl rfl ?c1 ?c2 ?c3 ?c4 ?c5 ?_)
  case c1 => exact cell_one_new' _ _ _
  case c2 => intro u hu; simp at hu; subst hu; rfl
  case c3 => unfold maxLen; omega
  case c4 => omega
  case c5 => have := hb1.size; have := hb2.size; have := hb3.size; simp; omega
  intro v4 w4 hown4 hgrow _
  have hv4 : w4.ownsRow w.heap.size 9 1 v4 (l.map (·.1) ++ [word n]).length ((l.map (·.1) ++ [word n]).map .string) := by
    simpa [stepVals, Function.comp_def] using hown4
  have hbw : Below w.heap.size w w4 := ((hb1.trans (hb2.mono hb1.size)).trans (hb3.mono (Nat.le_trans hb1.size hb2.size))).trans
    ((((Below.refl _ w3).alloc (Nat.le_refl _) _).mono (Nat.le_trans hb1.size (Nat.le_trans hb2.size hb3.size))).grown hgrow (by have := hb1.size; have := hb2.size; have := hb3.size; simp; omega) (fun k hk => (hown.lt k hk).1))
  have hfin : Lib.join ((l.map (·.1) ++ [word n]).map (·.data.toList)) [47] = pathOf l n := by simp [pathOf, Function.comp_def]
  have hj : Calls Tryd.prog 22 #[v4, .string ⟨#[47]⟩] w4 fun e w' => e = .returned (.string ⟨(pathOf l n).toArray⟩) ∧ Below w4.heap.size w4 w' := by
    rw [← hfin]
    exact Join_own w.heap.size v4 (l.map (·.1) ++ [word n]) ⟨#[47]⟩ w4 hv4 (by simp) (by simp; omega) (by have := HBb.out; simpa [pathOf, Function.comp_def] using this)
  clear hfin hv4
  go_wp2_with fail
  refine hj.mono ?_
  rintro e w5 ⟨rfl, hb5⟩
  go_wp2
  go_ret
  exact ⟨rfl, hbw.trans (hb5.mono hbw.size)⟩
end Go.Proofs.YtmkcpcndfddhoaaDoor

/-
  fault.Where over any chain.
-/
import Derived.Test.YtmkcpcndfddhoaaDoorFault
namespace Go.Proofs.YtmkcpcndfddhoaaDoor
open Go.RowKit Go.Extern.Stop Go.Stop Go.Extern

theorem strInfo : (Tryd.prog.info? 9).map (fun i => (i.zero, i.size, i.bytes)) = some (some (.string ⟨#[]⟩), 1, 16) := by kernel_rfl

/-- The steps of a chain, as values. -/
def stepVals (l : List (ByteArray × Int)) : List Value := l.map fun x => .string x.1
/-- The innermost place. -/
def lastAt : List (ByteArray × Int) → Int
  | [] => -1
  | [x] => x.2
  | _ :: y :: r => lastAt (y :: r)
theorem lastAt_snoc (l : List (ByteArray × Int)) (x : ByteArray × Int) : lastAt (l ++ [x]) = x.2 := by
  induction l with
  | nil => rfl
  | cons a r ih =>
    cases r with
    | nil => rfl
    | cons b q => exact ih

theorem owns_grown {w w' : World} {B e size n : Nat} {v : Value} {xs : List Value} {r : Option Nat} (h : w.ownsRow B e size v n xs) (hg : w.grownBy w' r) (hr : r = none ∨ ∃ k, r = some k ∧ w.heap[k]? = none) : w'.ownsRow B e size v n xs := by
  rcases hr with rfl | ⟨k, rfl, hk⟩
  · exact h.kept hg (by cases hv : v.ownBlock <;> simp)
  · refine h.kept hg (.inr ?_)
    intro e
    have := (h.lt k e).2
    rw [Array.getElem?_eq_getElem this] at hk
    cases hk

theorem cell_one_new' (w : World) (x : Value) (e : TypeId) : ∀ (j : Nat) (u : Value), [x][j]? = some u → (w.alloc (.cells #[x] e)).cell? ((⟨w.heap.size, 0, none⟩ : Addr).add j) = some u := by
  intro j u hj
  match j, hj with
  | 0, hj => simp at hj; subst hj; simp [Addr.add]

/-- What Where leaves. -/
def WherePost (w : World) (l : List (ByteArray × Int)) (e : Ending) (w' : World) : Prop :=
  ∃ v, e = .returned (.tuple #[v, .int .i64 (lastAt l)]) ∧ w'.ownsRow w.heap.size 9 1 v l.length (stepVals l) ∧ Below w.heap.size w w'

/-- The end of a chain at which a Where ends. -/
theorem As_faultEnd (e0 : Last) (t : Addr) (w : World) (hg : errorTypeLaid w) :
    Calls Tryd.prog 20 #[e0.val, .iface 51 (.pointer (some t))] w fun e w' => e = .returned (.bool false) ∧ w.grownBy w' none := by
  cases e0 with
  | num n => exact As_faultNum n t w hg
  | plain q => exact As_faultPlain q t w hg
  | none => exact (As_nil _ w).mono fun e w' ⟨a, b⟩ => ⟨a, by subst b; exact grown_refl _ _⟩

set_option maxRecDepth 100000 in
set_option maxHeartbeats 1000000 in
theorem Where_chain (v : Value) (l : List (ByteArray × Int)) (e0 : Last) (w : World) (hl : l.length ≤ 1000000) (hg : errorTypeLaid w) (hc : Chain w e0 v l) :
    Calls Tryd.prog 11 #[v] w (WherePost w l) := by
  obtain ⟨i0, hi, hz0, hz1, hz2⟩ := info_parts strInfo
  obtain ⟨B, hB⟩ : ∃ B, B = w.heap.size := ⟨_, rfl⟩
  have hgb : 0 < B := by rw [hB]; have := block_lt hg; simpa using Nat.lt_of_le_of_lt (Nat.zero_le _) this
  have HB := Lib.hid hB
  have HL := Lib.hid hl
  clear hl
  go_enter Tryd.func11, Tryd.ntmps11
  go_wp2
  go_loopg [0, 4, 5] l.length (fun k x o p wr => Hid (∃ done rest, done ++ rest = l ∧ rest.length = k ∧ Chain w e0 x rest ∧ wr.ownsRow B 9 1 o done.length (stepVals done) ∧ p = .int .i64 (lastAt done) ∧ Below B w wr))
  case atStart => exact Lib.hid ⟨[], l, rfl, rfl, hc, World.ownsRow_nil _ _ _ _, rfl, Below.refl _ _⟩
  case round =>
    obtain ⟨done, rest, hd, hk, hx, hown, rfl, hbl⟩ := hrel.out
    have HD := Lib.hid hd
    have HK := Lib.hid hk
    clear hd hk hrel
    have hgr : errorTypeLaid wr := (hbl.cell (by have := block_lt hg; rw [hB]; exact this)).trans hg
    have hsz := hbl.size
    rw [← hB] at hsz
    clear hB
    cases hx with
    | base =>
      have c := As_faultEnd e0 ⟨wr.heap.size, 0, none⟩ (wr.alloc (.cells #[.pointer none] 45)) (cell_old _ _ _ _ hgr)
      go_wp2_with (go_at_call 20; refine c.mono ?_; rintro e w' ⟨rfl, hg'⟩)
      go_ret2
      have := HD.out
      simp at this
      subst this
      refine ⟨_, rfl, ?_, ?_⟩
      · rw [← HB.out]; exact owns_grown (hown.alloc _) hg' (.inl rfl)
      · rw [← HB.out]; exact hbl.trans ((below_grown _ rfl hg' (.inl rfl)).mono hsz)
    | step b s at_ v' l'' hb hx' =>
      have hbB : b < B := by rw [HB.out]; exact (Array.getElem?_eq_some_iff.1 hb).1
      have c := As_faultHit b ⟨wr.heap.size, 0, none⟩ (.pointer none) (wr.alloc (.cells #[.pointer none] 45)) (cell_old _ _ _ _ hgr) (by simp) (by simp)
      have HX := Lib.hid hx'
      have Hb := Lib.hid hb
      clear hx' hb hgr
      have hblk : ∀ w1, (wr.alloc (.cells #[.pointer none] 45)).grownBy w1 (some wr.heap.size) → Below B w w1 := fun w1 hg' => hbl.trans ((below_grown _ rfl hg' (.inr rfl)).mono hsz)
      have hfc : ∀ w1, (wr.alloc (.cells #[.pointer none] 45)).grownBy w1 (some wr.heap.size) → w1.heap[b]? = some (faultCells s at_ v') := fun w1 hg' => ((hblk w1 hg').block b hbB).trans Hb.out
      have hownk : ∀ w1, (wr.alloc (.cells #[.pointer none] 45)).grownBy w1 (some wr.heap.size) → w1.ownsRow B 9 1 u4 done.length (stepVals done) := fun w1 hg' => by
        refine (hown.alloc _).kept hg' (.inr ?_)
        intro e; have := (hown.lt _ e).2; simp at this
      have HBL := Lib.hid hblk; have HFC := Lib.hid hfc; have HOW := Lib.hid hownk
      clear hblk hfc hownk
      go_upto_region 6 with (go_at_call 20; refine c.mono ?_; rintro e w1 ⟨rfl, hf0, hg'⟩)
      obtain ⟨f0, f1, f2⟩ := cells3 (HFC.out w1 hg')
      have hown1 := HOW.out w1 hg'
      have hbl1 := HBL.out w1 hg'
      have hlen : done.length + 1 ≤ 1000000 := by have := HD.out; have := HL.out; subst l; simp at this; omega
      clear c
      have hkeep : ∀ w2, (w1.alloc (.cells #[.string s] 9)).grownBy w2 u4.ownBlock → w2.cell? ⟨wr.heap.size, 0, none⟩ = some (.pointer (some ⟨b, 0, none⟩)) ∧ w2.cell? ⟨b, 0, none⟩ = some (.string s) ∧ w2.cell? ⟨b, 1, none⟩ = some (.int .i64 at_) ∧ w2.cell? ⟨b, 2, none⟩ = some v' := by
        intro w2 hg2
        have hne : ∀ k, k = wr.heap.size ∨ k = b → some k ≠ u4.ownBlock := by
          intro k hk e
          have h1 := hown.lt k e.symm
          rcases hk with rfl | rfl <;> omega
        exact ⟨hg2.cell (cell_old _ _ _ _ hf0) (hne _ (.inl rfl)), hg2.cell (cell_old _ _ _ _ f0) (hne _ (.inr rfl)), hg2.cell (cell_old _ _ _ _ f1) (hne _ (.inr rfl)), hg2.cell (cell_old _ _ _ _ f2) (hne _ (.inr rfl))⟩
      have HK2 := Lib.hid hkeep
      clear hkeep
      go_upto_region 7 with (at_builtin; refine wpList_append_own _ rfl _ _ 30 rfl B 9 i0 (.string ⟨#[]⟩) 1 16 Tryd.underlying30 hi hz0 hz1 hz2 rfl (by decide) _ _ _ rfl (hown1.alloc _) ⟨w1.heap.size, 0, none⟩ 1 1 [.string s] rfl rfl ?c1 ?c2 ?c3 ?c4 ?c5 ?_)
      case c1 => exact cell_one_new' _ _ _
      case c2 => intro u hu; simp at hu; subst hu; rfl
      case c3 => unfold maxLen; omega
      case c4 => omega
      case c5 => have := hbl1.size; have := (HB.out); simp; omega
      intro v2 w2 hown2 hgrow _
      obtain ⟨k0, k1, k2, k3⟩ := HK2.out w2 hgrow
      clear f0 f1 f2 hf0
      go_wp2
      go_roundg l''.length
      case rel =>
        refine Lib.hid ⟨done ++ [(s, at_)], l'', by rw [← HD.out]; simp, rfl, HX.out, ?_, ?_, ?_⟩
        · simpa [stepVals] using hown2
        · rw [lastAt_snoc]
        · exact (hbl1.alloc (by have := hbl1.size; have := HB.out; omega) _).grown hgrow (by have := hbl1.size; have := HB.out; simp; omega) (fun k hk => (hown.lt k hk).1)
      case measure => have := HK.out; simp at this; omega
end Go.Proofs.YtmkcpcndfddhoaaDoor

/-
  errors.As, whole, at the two targets that the program uses, over any chain of faults.
-/
import Derived.Test.YtmkcpcndfddhoaaDoorAsNum
import Derived.Deep.DeepCutAuto
namespace Go.Proofs.YtmkcpcndfddhoaaDoor
open Go.RowKit Go.Extern.Stop Go.Stop Go.Extern

theorem grown_setCell {w w' : World} {r : Option Nat} (h : w.grownBy w' r) (a : Addr) (ha : some a.block = r) (u : Value) : w.grownBy (w'.setCell a u) r :=
  ⟨h.os, h.tape, h.output, by simpa [World.setCell] using h.size, fun k hk hr => by
    rw [Below.heap_setCell]
    · exact h.block k hk hr
    · intro e; subst e; exact hr ha⟩
theorem grown_alloc {w w' : World} {r : Option Nat} (h : w.grownBy w' r) (o : Obj) : w.grownBy (w'.alloc o) r :=
  ⟨h.os, h.tape, h.output, by have := h.size; simp; omega, fun k hk hr => by rw [Below.heap_alloc _ _ _ (by have := h.size; omega)]; exact h.block k hk hr⟩
theorem grown_refl (w : World) (r : Option Nat) : w.grownBy w r := ⟨rfl, rfl, rfl, Nat.le_refl _, fun _ _ _ => rfl⟩
theorem cell_setCell {w : World} {a : Addr} {x : Value} (u : Value) (h : w.cell? a = some x) : (w.setCell a u).cell? a = some u := by
  have hb := block_lt h
  unfold World.cell? at h ⊢
  have e1 : (w.setCell a u).heap[a.block]? = (w.heap[a.block]?).map (fun | .cells c elem frozen => .cells (if a.spot.isSome then c else c.setIfInBounds a.off u) elem frozen | o => o) := by
    simp [World.setCell, Array.getElem?_modify]
    split <;> rfl
  rw [e1]
  cases hh : w.heap[a.block]? with
  | none => simp [hh] at h
  | some o =>
    rw [hh] at h
    cases o <;> simp at h ⊢
    rename_i c el fz
    obtain ⟨h1, h2⟩ := h
    simp [h1]
    have hlt : a.off < c.size := by
      rcases Nat.lt_or_ge a.off c.size with h' | h'
      · exact h'
      · simp [Array.getElem?_eq_none h'] at h2
    simp [hlt]

/-- errors.errorType, as it is laid. -/
abbrev errorTypeLaid (w : World) : Prop := w.cell? ⟨0, 0, none⟩ = some (rtyp 25)

theorem As_nil (t : Value) (w : World) :
    Calls Tryd.prog 20 #[.nilIface, t] w fun e w' => e = .returned (.bool false) ∧ w' = w := by
  go_enter Tryd.func20, Tryd.ntmps20
  go_wp2
  go_ret
  exact ⟨rfl, rfl⟩

set_option maxRecDepth 100000 in
set_option maxHeartbeats 1000000 in
theorem As_num (v : Value) (l : List (ByteArray × Int)) (n : Int) (t : Addr) (old : Value) (w : World) (hg : errorTypeLaid w) (hc : Chain w (.num n) v l) (ht : w.cell? t = some old) (hf : w.frozen? t = false) :
    Calls Tryd.prog 20 #[v, .iface 52 (.pointer (some t))] w fun e w' => e = .returned (.bool true) ∧ w'.cell? t = some (.int .i64 n) ∧ w.grownBy w' (some t.block) := by
  obtain ⟨T, x, rfl⟩ := hc.isIface (by intro h; cases h)
  have hV := xValueOf
  have hT := xType
  have hK := xKind
  have hN := xIsNil
  have hE := xTypElem
  have hI := xImplements
  have vN := valueOfPN
  have tP := typePN
  have kP := kindPN
  have kN := kindN
  have eP := typElemPN
  have iN := implementsN
  obtain ⟨W, hW⟩ : ∃ W, W = (w.alloc (.cells #[.pointer (some t)] 52)).alloc (boxOf 52 w.heap.size) := ⟨_, rfl⟩
  have n8 := isNilPN ⟨w.heap.size, 0, none⟩ t W (hW ▸ cell_old _ _ _ _ (by simp))
  have hgW : errorTypeLaid W := hW ▸ cell_old _ _ _ _ (cell_old _ _ _ _ hg)
  have hcW : Chain W (.num n) (.iface T x) l := hW ▸ (hc.alloc _).alloc _
  have htW : W.cell? t = some old := hW ▸ cell_old _ _ _ _ (cell_old _ _ _ _ ht)
  have hfW : W.frozen? t = false := hW ▸ frozen_old _ _ _ _ (cell_old _ _ _ _ ht) (frozen_old _ _ _ _ ht hf)
  have hvW : W.cell? ⟨w.heap.size, 0, none⟩ = some (.pointer (some t)) := hW ▸ cell_old _ _ _ _ (by simp)
  have c := asLoop_num (.iface T x) l n t w.heap.size old W hcW hvW htW hfW
  obtain ⟨g0, g1, g2⟩ := cells3 (w := W) (b := w.heap.size + 1) (by rw [hW]; simpa using heap_new (w.alloc (.cells #[.pointer (some t)] 52)) (boxOf 52 w.heap.size))
  have hgr : w.grownBy W (some t.block) := hW ▸ grown_alloc (grown_alloc (grown_refl _ _) _) _
  go_enter Tryd.func20, Tryd.ntmps20
  go_upto_region 6 with (fail)
  rw [← hW]
  have HW := Lib.hid hW; clear hW
  go_wp2_with (go_at_call 30; refine c.mono ?_; rintro e w' ⟨rfl, rfl⟩)
  go_ret
  refine ⟨rfl, cell_setCell _ (cell_old _ _ _ _ (cell_old _ _ _ _ htW)), grown_setCell (grown_alloc (grown_alloc hgr _) _) _ rfl _⟩

set_option maxRecDepth 100000 in
set_option maxHeartbeats 1000000 in
theorem As_numPlain (v : Value) (l : List (ByteArray × Int)) (q : Addr) (t : Addr) (w : World) (hg : errorTypeLaid w) (hc : Chain w (.plain q) v l) :
    Calls Tryd.prog 20 #[v, .iface 52 (.pointer (some t))] w fun e w' => e = .returned (.bool false) ∧ w.grownBy w' none := by
  have hV := xValueOf
  have hT := xType
  have hK := xKind
  have hN := xIsNil
  have hE := xTypElem
  have hI := xImplements
  have vN := valueOfPN
  have tP := typePN
  have kP := kindPN
  have kN := kindN
  have eP := typElemPN
  have iN := implementsN
  obtain ⟨W, hW⟩ : ∃ W, W = (w.alloc (.cells #[.pointer (some t)] 52)).alloc (boxOf 52 w.heap.size) := ⟨_, rfl⟩
  have n8 := isNilPN ⟨w.heap.size, 0, none⟩ t W (hW ▸ cell_old _ _ _ _ (by simp))
  have hgW : errorTypeLaid W := hW ▸ cell_old _ _ _ _ (cell_old _ _ _ _ hg)
  have hcW : Chain W (.plain q) v l := hW ▸ (hc.alloc _).alloc _
  have c := asLoop_numPlain v l q t w.heap.size W hcW
  obtain ⟨g0, g1, g2⟩ := cells3 (w := W) (b := w.heap.size + 1) (by rw [hW]; simpa using heap_new (w.alloc (.cells #[.pointer (some t)] 52)) (boxOf 52 w.heap.size))
  obtain ⟨T, x, rfl⟩ := hc.isIface (by intro h; cases h)
  have hgr : w.grownBy W none := hW ▸ grown_alloc (grown_alloc (grown_refl _ _) _) _
  go_enter Tryd.func20, Tryd.ntmps20
  go_upto_region 6 with (fail)
  rw [← hW]
  have HW := Lib.hid hW; clear hW
  go_wp2_with (go_at_call 30; refine c.mono ?_; rintro e w' ⟨rfl, rfl⟩)
  go_ret
  refine ⟨rfl, grown_alloc hgr _⟩

set_option maxRecDepth 100000 in
set_option maxHeartbeats 1000000 in
theorem As_faultHit (b : Nat) (t : Addr) (old : Value) (w : World) (hg : errorTypeLaid w) (ht : w.cell? t = some old) (hf : w.frozen? t = false) :
    Calls Tryd.prog 20 #[faultVal b, .iface 51 (.pointer (some t))] w fun e w' => e = .returned (.bool true) ∧ w'.cell? t = some (.pointer (some ⟨b, 0, none⟩)) ∧ w.grownBy w' (some t.block) := by
  have hV := xValueOf
  have hT := xType
  have hK := xKind
  have hN := xIsNil
  have hE := xTypElem
  have hI := xImplements
  have vN := valueOfPF
  have tP := typePF
  have kP := kindPF
  have kN := kindF
  have eP := typElemPF
  have iN := implementsF
  obtain ⟨W, hW⟩ : ∃ W, W = (w.alloc (.cells #[.pointer (some t)] 51)).alloc (boxOf 51 w.heap.size) := ⟨_, rfl⟩
  have n8 := isNilPF ⟨w.heap.size, 0, none⟩ t W (hW ▸ cell_old _ _ _ _ (by simp))
  have hgW : errorTypeLaid W := hW ▸ cell_old _ _ _ _ (cell_old _ _ _ _ hg)
  have htW : W.cell? t = some old := hW ▸ cell_old _ _ _ _ (cell_old _ _ _ _ ht)
  have hfW : W.frozen? t = false := hW ▸ frozen_old _ _ _ _ (cell_old _ _ _ _ ht) (frozen_old _ _ _ _ ht hf)
  have hvW : W.cell? ⟨w.heap.size, 0, none⟩ = some (.pointer (some t)) := hW ▸ cell_old _ _ _ _ (by simp)
  have c := asLoop_faultHit b t w.heap.size old W hvW htW hfW
  obtain ⟨g0, g1, g2⟩ := cells3 (w := W) (b := w.heap.size + 1) (by rw [hW]; simpa using heap_new (w.alloc (.cells #[.pointer (some t)] 51)) (boxOf 51 w.heap.size))
  have hgr : w.grownBy W (some t.block) := hW ▸ grown_alloc (grown_alloc (grown_refl _ _) _) _
  go_enter Tryd.func20, Tryd.ntmps20
  go_upto_region 6 with (fail)
  rw [← hW]
  have HW := Lib.hid hW; clear hW
  go_wp2_with (go_at_call 30; refine c.mono ?_; rintro e w' ⟨rfl, rfl⟩)
  go_ret
  refine ⟨rfl, cell_setCell _ (cell_old _ _ _ _ (cell_old _ _ _ _ htW)), grown_setCell (grown_alloc (grown_alloc hgr _) _) _ rfl _⟩

set_option maxRecDepth 100000 in
set_option maxHeartbeats 1000000 in
theorem As_faultNum (n : Int) (t : Addr) (w : World) (hg : errorTypeLaid w) :
    Calls Tryd.prog 20 #[.iface 33 (.int .i64 n), .iface 51 (.pointer (some t))] w fun e w' => e = .returned (.bool false) ∧ w.grownBy w' none := by
  have hV := xValueOf
  have hT := xType
  have hK := xKind
  have hN := xIsNil
  have hE := xTypElem
  have hI := xImplements
  have vN := valueOfPF
  have tP := typePF
  have kP := kindPF
  have kN := kindF
  have eP := typElemPF
  have iN := implementsF
  obtain ⟨W, hW⟩ : ∃ W, W = (w.alloc (.cells #[.pointer (some t)] 51)).alloc (boxOf 51 w.heap.size) := ⟨_, rfl⟩
  have n8 := isNilPF ⟨w.heap.size, 0, none⟩ t W (hW ▸ cell_old _ _ _ _ (by simp))
  have hgW : errorTypeLaid W := hW ▸ cell_old _ _ _ _ (cell_old _ _ _ _ hg)
  have c := asLoop_faultNum n t w.heap.size W
  obtain ⟨g0, g1, g2⟩ := cells3 (w := W) (b := w.heap.size + 1) (by rw [hW]; simpa using heap_new (w.alloc (.cells #[.pointer (some t)] 51)) (boxOf 51 w.heap.size))
  have hgr : w.grownBy W none := hW ▸ grown_alloc (grown_alloc (grown_refl _ _) _) _
  go_enter Tryd.func20, Tryd.ntmps20
  go_upto_region 6 with (fail)
  rw [← hW]
  have HW := Lib.hid hW; clear hW
  go_wp2_with (go_at_call 30; refine c.mono ?_; rintro e w' ⟨rfl, rfl⟩)
  go_ret
  refine ⟨rfl, grown_alloc hgr _⟩

set_option maxRecDepth 100000 in
set_option maxHeartbeats 1000000 in
theorem As_faultPlain (q : Addr) (t : Addr) (w : World) (hg : errorTypeLaid w) :
    Calls Tryd.prog 20 #[.iface 60 (.pointer (some q)), .iface 51 (.pointer (some t))] w fun e w' => e = .returned (.bool false) ∧ w.grownBy w' none := by
  have hV := xValueOf
  have hT := xType
  have hK := xKind
  have hN := xIsNil
  have hE := xTypElem
  have hI := xImplements
  have vN := valueOfPF
  have tP := typePF
  have kP := kindPF
  have kN := kindF
  have eP := typElemPF
  have iN := implementsF
  obtain ⟨W, hW⟩ : ∃ W, W = (w.alloc (.cells #[.pointer (some t)] 51)).alloc (boxOf 51 w.heap.size) := ⟨_, rfl⟩
  have n8 := isNilPF ⟨w.heap.size, 0, none⟩ t W (hW ▸ cell_old _ _ _ _ (by simp))
  have hgW : errorTypeLaid W := hW ▸ cell_old _ _ _ _ (cell_old _ _ _ _ hg)
  have c := asLoop_faultPlain q t w.heap.size W
  obtain ⟨g0, g1, g2⟩ := cells3 (w := W) (b := w.heap.size + 1) (by rw [hW]; simpa using heap_new (w.alloc (.cells #[.pointer (some t)] 51)) (boxOf 51 w.heap.size))
  have hgr : w.grownBy W none := hW ▸ grown_alloc (grown_alloc (grown_refl _ _) _) _
  go_enter Tryd.func20, Tryd.ntmps20
  go_upto_region 6 with (fail)
  rw [← hW]
  have HW := Lib.hid hW; clear hW
  go_wp2_with (go_at_call 30; refine c.mono ?_; rintro e w' ⟨rfl, rfl⟩)
  go_ret
  refine ⟨rfl, grown_alloc hgr _⟩
end Go.Proofs.YtmkcpcndfddhoaaDoor

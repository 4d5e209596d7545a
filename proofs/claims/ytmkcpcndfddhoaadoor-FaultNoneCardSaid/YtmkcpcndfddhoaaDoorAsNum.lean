/-
  errors.As with the variable of a number as its target, over any chain of faults.
-/
import Derived.Test.YtmkcpcndfddhoaaDoorAs
namespace Go.Proofs.YtmkcpcndfddhoaaDoor
open Go.RowKit Go.Extern.Stop Go.Stop Go.Extern

theorem faultMethod (v : Value) (w : World) : (Go.method 249 45 v "Unwrap").run Tryd.prog w = .ok (71, v) w := by kernel_rfl

theorem xTypeOf : ∀ (args : Array Value) (w : World), (callFunc 24 args).run Tryd.prog w = ((ReflectliteType.typeOf args).run Tryd.prog w).andThen fun v w' => .ok (Next.value v) w' :=
  @run_callFunc_extern Tryd.prog 24 _ ReflectliteType.typeOf Tryd.func24 (by kernel_rfl) (by kernel_rfl) (by kernel_rfl) (by kernel_rfl)
theorem xAssignable : ∀ (args : Array Value) (w : World), (callFunc 78 args).run Tryd.prog w = (((ReflectliteType.relation "AssignableTo" ReflectliteType.assignableTo) args).run Tryd.prog w).andThen fun v w' => .ok (Next.value v) w' :=
  @run_callFunc_extern Tryd.prog 78 _ (ReflectliteType.relation "AssignableTo" ReflectliteType.assignableTo) Tryd.func78 (by kernel_rfl) (by kernel_rfl) (by kernel_rfl) (by kernel_rfl)
theorem xValueOf : ∀ (args : Array Value) (w : World), (callFunc 27 args).run Tryd.prog w = (((fun args => ReflectliteValue.unpack (args.getD 0 (.tuple #[]))) args).run Tryd.prog w).andThen fun v w' => .ok (Next.value v) w' :=
  @run_callFunc_extern Tryd.prog 27 _ (fun args => ReflectliteValue.unpack (args.getD 0 (.tuple #[]))) Tryd.func27 (by kernel_rfl) (by kernel_rfl) (by kernel_rfl) (by kernel_rfl)
theorem xElem : ∀ (args : Array Value) (w : World), (callFunc 35 args).run Tryd.prog w = (((ReflectliteValue.method (ReflectliteValue.valueError "reflectlite.Value.Elem" 0) ReflectliteValue.elem) args).run Tryd.prog w).andThen fun v w' => .ok (Next.value v) w' :=
  @run_callFunc_extern Tryd.prog 35 _ (ReflectliteValue.method (ReflectliteValue.valueError "reflectlite.Value.Elem" 0) ReflectliteValue.elem) Tryd.func35 (by kernel_rfl) (by kernel_rfl) (by kernel_rfl) (by kernel_rfl)
theorem xSet : ∀ (args : Array Value) (w : World), (callFunc 36 args).run Tryd.prog w = ((ReflectliteValue.set args).run Tryd.prog w).andThen fun v w' => .ok (Next.value v) w' :=
  @run_callFunc_extern Tryd.prog 36 _ ReflectliteValue.set Tryd.func36 (by kernel_rfl) (by kernel_rfl) (by kernel_rfl) (by kernel_rfl)
theorem xType : ∀ (args : Array Value) (w : World), (callFunc 28 args).run Tryd.prog w = (((ReflectliteValue.methodAny (ReflectliteValue.valueError "reflectlite.Value.Type" 0) (fun t _ _ _ => ReflectliteType.toType t)) args).run Tryd.prog w).andThen fun v w' => .ok (Next.value v) w' :=
  @run_callFunc_extern Tryd.prog 28 _ (ReflectliteValue.methodAny (ReflectliteValue.valueError "reflectlite.Value.Type" 0) (fun t _ _ _ => ReflectliteType.toType t)) Tryd.func28 (by kernel_rfl) (by kernel_rfl) (by kernel_rfl) (by kernel_rfl)
theorem xIsNil : ∀ (args : Array Value) (w : World), (callFunc 29 args).run Tryd.prog w = (((ReflectliteValue.method (ReflectliteValue.valueError "reflectlite.Value.IsNil" 0) ReflectliteValue.isNil) args).run Tryd.prog w).andThen fun v w' => .ok (Next.value v) w' :=
  @run_callFunc_extern Tryd.prog 29 _ (ReflectliteValue.method (ReflectliteValue.valueError "reflectlite.Value.IsNil" 0) ReflectliteValue.isNil) Tryd.func29 (by kernel_rfl) (by kernel_rfl) (by kernel_rfl) (by kernel_rfl)
theorem xKind : ∀ (args : Array Value) (w : World), (callFunc 67 args).run Tryd.prog w = (((ReflectliteType.abiMethod fun t => do pure (.int .u8 (← Rtype.kind t))) args).run Tryd.prog w).andThen fun v w' => .ok (Next.value v) w' :=
  @run_callFunc_extern Tryd.prog 67 _ (ReflectliteType.abiMethod fun t => do pure (.int .u8 (← Rtype.kind t))) Tryd.func67 (by kernel_rfl) (by kernel_rfl) (by kernel_rfl) (by kernel_rfl)
theorem xTypElem : ∀ (args : Array Value) (w : World), (callFunc 80 args).run Tryd.prog w = (((ReflectliteType.method ReflectliteType.elem) args).run Tryd.prog w).andThen fun v w' => .ok (Next.value v) w' :=
  @run_callFunc_extern Tryd.prog 80 _ (ReflectliteType.method ReflectliteType.elem) Tryd.func80 (by kernel_rfl) (by kernel_rfl) (by kernel_rfl) (by kernel_rfl)
theorem xImplements : ∀ (args : Array Value) (w : World), (callFunc 81 args).run Tryd.prog w = (((ReflectliteType.relation "Implements" ReflectliteType.implements_) args).run Tryd.prog w).andThen fun v w' => .ok (Next.value v) w' :=
  @run_callFunc_extern Tryd.prog 81 _ (ReflectliteType.relation "Implements" ReflectliteType.implements_) Tryd.func81 (by kernel_rfl) (by kernel_rfl) (by kernel_rfl) (by kernel_rfl)

/-- What the target gets of a chain's end. -/
def Last.has : Last → Bool | .num _ => true | _ => false

theorem Chain.isIface {w : World} {e : Last} {v : Value} {l : List (ByteArray × Int)} (h : Chain w e v l) (he : e ≠ .none) : ∃ T x, v = .iface T x := by
  cases h with
  | base =>
    cases e with
    | num n => exact ⟨_, _, rfl⟩
    | plain a => exact ⟨_, _, rfl⟩
    | none => exact absurd rfl he
  | step => exact ⟨_, _, rfl⟩

theorem heap_new (w : World) (o : Obj) : (w.alloc o).heap[w.heap.size]? = some o := by
  show (w.heap.push o)[w.heap.size]? = some o
  simp

theorem cell_old (w : World) (o : Obj) (a : Addr) (x : Value) (h : w.cell? a = some x) : (w.alloc o).cell? a = some x := by
  rw [World.cell?_alloc_lt _ _ a]
  · exact h
  · rcases Nat.lt_or_ge a.block w.heap.size with h' | h'
    · exact h'
    · simp [World.cell?, Array.getElem?_eq_none h'] at h

theorem block_lt {w : World} {a : Addr} {x : Value} (h : w.cell? a = some x) : a.block < w.heap.size := by
  rcases Nat.lt_or_ge a.block w.heap.size with h' | h'
  · exact h'
  · simp [World.cell?, Array.getElem?_eq_none h'] at h

theorem frozen_old (w : World) (o : Obj) (a : Addr) (x : Value) (h : w.cell? a = some x) (hf : w.frozen? a = false) : (w.alloc o).frozen? a = false := by
  rw [World.frozen?_alloc_old _ _ a (Nat.ne_of_lt (block_lt h))]; exact hf

set_option maxRecDepth 100000 in
set_option maxHeartbeats 1000000 in
theorem asLoop_num (v : Value) (l : List (ByteArray × Int)) (n : Int) (t : Addr) (vb : Nat) (old : Value) (w : World) (hc : Chain w (.num n) v l) (hv : w.cell? ⟨vb, 0, none⟩ = some (.pointer (some t))) (ht : w.cell? t = some old) (hf : w.frozen? t = false) :
    Calls Tryd.prog 30 #[v, .iface 52 (.pointer (some t)), rval 52 ⟨vb, 0, none⟩ 150, rtyp 33] w fun e w' => e = .returned (.bool true) ∧
      w' = ((w.alloc (.cells #[.pointer (some ⟨5, 52, none⟩), .pointer (some ⟨vb, 0, none⟩), .int .u64 150] 67)).alloc (.cells #[.int .i64 n] 33)).setCell t (.int .i64 n) := by
  obtain ⟨W, hW⟩ : ∃ W, W = w.alloc (.cells #[.pointer (some ⟨5, 52, none⟩), .pointer (some ⟨vb, 0, none⟩), .int .u64 150] 67) := ⟨_, rfl⟩
  have hcW : Chain W (.num n) v l := hW ▸ hc.alloc _
  obtain ⟨g0, g1, g2⟩ := cells3 (w := W) (hW ▸ heap_new w _)
  have hvW : W.cell? ⟨vb, 0, none⟩ = some (.pointer (some t)) := hW ▸ cell_old w _ _ _ hv
  have htW : W.cell? t = some old := hW ▸ cell_old w _ _ _ ht
  have hfW : W.frozen? t = false := hW ▸ frozen_old w _ _ _ ht hf
  have h24 := xTypeOf
  have hA := xAssignable
  have hV := xValueOf
  have hE := xElem
  have hS := xSet
  have tF := typeOfFault
  have tN := typeOfNum
  have aF := assignFaultNum
  have aN := assignNumNum
  have nA := noAsFault
  have uF := unwrapFault
  have vN := valueOfN
  have eE := elemPN ⟨vb, 0, none⟩ t W hvW
  have st := setN t ⟨W.heap.size, 0, none⟩ n old (W.alloc (.cells #[.int .i64 n] 33)) (by simp) (cell_old W _ _ _ htW) (frozen_old W _ _ _ htW hfW)
  go_enter Tryd.func30, Tryd.ntmps30
  go_wp2
  rw [← hW]
  have HW := Lib.hid hW; clear hW
  go_loopg [0] l.length (fun k x wr => wr = W ∧ ∃ l', l'.length = k ∧ Chain W (.num n) x l')
  case atStart => exact ⟨rfl, l, rfl, hcW⟩
  case round =>
    obtain ⟨rfl, l', hl, hx⟩ := hrel
    have Hl := Lib.hid hl; clear hl
    cases hx with
    | base =>
      simp only [Last.val]
      go_wp2
      go_ret
      rw [HW.out]
      exact ⟨rfl, rfl⟩
    | step b s at_ v' l'' hb hx' =>
      obtain ⟨T, x, rfl⟩ := hx'.isIface (by intro h; cases h)
      have c2 := (cells3 hb).2.2
      have Hb := Lib.hid hb; clear hb
      go_wp2_with (go_at_call 71; refine (faultUnwrap b (.iface T x) _ c2).mono ?_; rintro e w' ⟨rfl, rfl⟩)
      go_roundg l''.length
      case rel => exact ⟨rfl, l'', rfl, hx'⟩
      case measure => have := Hl.out; simp at this; omega

abbrev boxOf (T : Nat) (vb : Nat) : Obj := .cells #[.pointer (some ⟨5, T, none⟩), .pointer (some ⟨vb, 0, none⟩), .int .u64 150] 67

set_option maxRecDepth 100000 in
set_option maxHeartbeats 1000000 in
theorem asLoop_numPlain (v : Value) (l : List (ByteArray × Int)) (q : Addr) (t : Addr) (vb : Nat) (w : World) (hc : Chain w (.plain q) v l) :
    Calls Tryd.prog 30 #[v, .iface 52 (.pointer (some t)), rval 52 ⟨vb, 0, none⟩ 150, rtyp 33] w fun e w' => e = .returned (.bool false) ∧
      w' = w.alloc (boxOf 52 vb) := by
  obtain ⟨W, hW⟩ : ∃ W, W = w.alloc (boxOf 52 vb) := ⟨_, rfl⟩
  have hcW : Chain W (.plain q) v l := hW ▸ hc.alloc _
  have h24 := xTypeOf
  have hA := xAssignable
  have tF := typeOfFault
  have tN := typeOfPlain
  have aF := assignFaultNum
  have aN := assignPlainNum
  have nA := noAsFault
  have nA' := noAsPlain
  have uF := unwrapFault
  have uP := noUnwrapPlain
  have usP := noUnwrapsPlain
  go_enter Tryd.func30, Tryd.ntmps30
  go_wp2
  rw [← hW]
  have HW := Lib.hid hW; clear hW
  go_loopg [0] l.length (fun k x wr => wr = W ∧ ∃ l', l'.length = k ∧ Chain W (.plain q) x l')
  case atStart => exact ⟨rfl, l, rfl, hcW⟩
  case round =>
    obtain ⟨rfl, l', hl, hx⟩ := hrel
    have Hl := Lib.hid hl; clear hl
    cases hx with
    | base =>
      simp only [Last.val]
      go_wp2
      go_ret
      rw [HW.out]
      exact ⟨rfl, rfl⟩
    | step b s at_ v' l'' hb hx' =>
      obtain ⟨T, x, rfl⟩ := hx'.isIface (by intro h; cases h)
      have c2 := (cells3 hb).2.2
      have Hb := Lib.hid hb; clear hb
      go_wp2_with (go_at_call 71; refine (faultUnwrap b (.iface T x) _ c2).mono ?_; rintro e w' ⟨rfl, rfl⟩)
      go_roundg l''.length
      case rel => exact ⟨rfl, l'', rfl, hx'⟩
      case measure => have := Hl.out; simp at this; omega

theorem asLoop_faultHit (b : Nat) (t : Addr) (vb : Nat) (old : Value) (w : World) (hv : w.cell? ⟨vb, 0, none⟩ = some (.pointer (some t))) (ht : w.cell? t = some old) (hf : w.frozen? t = false) :
    Calls Tryd.prog 30 #[faultVal b, .iface 51 (.pointer (some t)), rval 51 ⟨vb, 0, none⟩ 150, rtyp 45] w fun e w' => e = .returned (.bool true) ∧
      w' = ((w.alloc (boxOf 51 vb)).alloc (.cells #[.pointer (some ⟨b, 0, none⟩)] 45)).setCell t (.pointer (some ⟨b, 0, none⟩)) := by
  obtain ⟨W, hW⟩ : ∃ W, W = w.alloc (boxOf 51 vb) := ⟨_, rfl⟩
  obtain ⟨g0, g1, g2⟩ := cells3 (w := W) (hW ▸ heap_new w _)
  have hvW : W.cell? ⟨vb, 0, none⟩ = some (.pointer (some t)) := hW ▸ cell_old w _ _ _ hv
  have htW : W.cell? t = some old := hW ▸ cell_old w _ _ _ ht
  have hfW : W.frozen? t = false := hW ▸ frozen_old w _ _ _ ht hf
  have h24 := xTypeOf
  have hA := xAssignable
  have hV := xValueOf
  have hE := xElem
  have hS := xSet
  have tF := typeOfFault
  have aF := assignFaultFault
  have vN := valueOfF
  have eE := elemPF ⟨vb, 0, none⟩ t W hvW
  have st := setF t ⟨W.heap.size, 0, none⟩ ⟨b, 0, none⟩ old (W.alloc (.cells #[.pointer (some ⟨b, 0, none⟩)] 45)) (by simp) (cell_old W _ _ _ htW) (frozen_old W _ _ _ htW hfW)
  go_enter Tryd.func30, Tryd.ntmps30
  go_wp2
  rw [← hW]
  have HW := Lib.hid hW; clear hW
  refine wp_loop_rounds 1 ?_
  rw [rounds_succ]
  go_wp2
  go_ret
  rw [HW.out]
  exact ⟨rfl, rfl⟩

theorem asLoop_faultNum (n : Int) (t : Addr) (vb : Nat) (w : World) :
    Calls Tryd.prog 30 #[.iface 33 (.int .i64 n), .iface 51 (.pointer (some t)), rval 51 ⟨vb, 0, none⟩ 150, rtyp 45] w fun e w' => e = .returned (.bool false) ∧
      w' = w.alloc (boxOf 51 vb) := by
  have h24 := xTypeOf
  have hA := xAssignable
  have tF := typeOfNum
  have aF := assignNumFault
  have nA' := noAsNum
  have uP := noUnwrapNum
  have usP := noUnwrapsNum
  go_enter Tryd.func30, Tryd.ntmps30
  go_wp2
  refine wp_loop_rounds 1 ?_
  rw [rounds_succ]
  go_wp2
  go_ret
  exact ⟨rfl, rfl⟩

theorem asLoop_faultPlain (q : Addr) (t : Addr) (vb : Nat) (w : World) :
    Calls Tryd.prog 30 #[.iface 60 (.pointer (some q)), .iface 51 (.pointer (some t)), rval 51 ⟨vb, 0, none⟩ 150, rtyp 45] w fun e w' => e = .returned (.bool false) ∧
      w' = w.alloc (boxOf 51 vb) := by
  have h24 := xTypeOf
  have hA := xAssignable
  have tF := typeOfPlain
  have aF := assignPlainFault
  have nA' := noAsPlain
  have uP := noUnwrapPlain
  have usP := noUnwrapsPlain
  go_enter Tryd.func30, Tryd.ntmps30
  go_wp2
  refine wp_loop_rounds 1 ?_
  rw [rounds_succ]
  go_wp2
  go_ret
  exact ⟨rfl, rfl⟩
end Go.Proofs.YtmkcpcndfddhoaaDoor

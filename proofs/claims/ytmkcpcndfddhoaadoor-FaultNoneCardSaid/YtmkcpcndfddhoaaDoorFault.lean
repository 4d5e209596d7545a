/-
  Package fault over chains: In, Of, Where's rounds.
-/
import Derived.Test.YtmkcpcndfddhoaaDoorAsAll
import Derived.Lib.IfaceEq
namespace Go.Proofs.YtmkcpcndfddhoaaDoor
open Go.RowKit Go.Extern.Stop Go.Stop Go.Extern

theorem eqNum (a b : Int) (w : World) : (binOp .eql 25 (.iface 33 (.int .i64 a)) (.iface 33 (.int .i64 b))).run Tryd.prog w = .ok (.bool (a == b)) w :=
  Lib.run_eql_iface_int w a b Tryd.underlying25 (by kernel_rfl) Tryd.underlying33
theorem eqTypes (T U : Nat) (x y : Value) (h : T ≠ U) (w : World) : (binOp .eql 25 (.iface T x) (.iface U y)).run Tryd.prog w = .ok (.bool false) w :=
  run_eql_iface_types (P := Tryd.prog) T U x y Tryd.underlying25 h w

theorem In_nil (s : ByteArray) (p : Int) (w : World) :
    Calls Tryd.prog 10 #[.string s, .int .i64 p, .nilIface] w fun e w' => e = .returned .nilIface ∧ w' = w := by
  go_enter Tryd.func10, Tryd.ntmps10
  go_wp2
  go_ret
  exact ⟨rfl, rfl⟩
theorem In_ok (s : ByteArray) (p : Int) (w : World) :
    Calls Tryd.prog 10 #[.string s, .int .i64 p, .iface 33 (.int .i64 0)] w fun e w' => e = .returned .nilIface ∧ w' = w := by
  have h0 := eqNum 0 0
  go_enter Tryd.func10, Tryd.ntmps10
  go_wp2
  go_ret
  exact ⟨rfl, rfl⟩
theorem In_num (s : ByteArray) (p n : Int) (hn : n ≠ 0) (w : World) :
    Calls Tryd.prog 10 #[.string s, .int .i64 p, .iface 33 (.int .i64 n)] w fun e w' => e = .returned (faultVal w.heap.size) ∧ w' = w.alloc (faultCells s p (.iface 33 (.int .i64 n))) := by
  have h0 := eqNum n 0
  have hn' : (n == 0) = false := by simpa using hn
  rw [hn'] at h0
  clear hn'
  go_enter Tryd.func10, Tryd.ntmps10
  go_wp2
  go_ret
  exact ⟨rfl, rfl⟩
theorem In_other (s : ByteArray) (p : Int) (T : Nat) (x : Value) (hT : T ≠ 33) (w : World) :
    Calls Tryd.prog 10 #[.string s, .int .i64 p, .iface T x] w fun e w' => e = .returned (faultVal w.heap.size) ∧ w' = w.alloc (faultCells s p (.iface T x)) := by
  have h0 := fun w => eqTypes T 33 x (.int .i64 0) hT w
  go_enter Tryd.func10, Tryd.ntmps10
  go_wp2
  go_ret
  exact ⟨rfl, rfl⟩

/-- A chain that is an error. -/
def Last.wrong : Last → Prop | .num n => n ≠ 0 | .plain _ => True | .none => False

theorem In_any (s : ByteArray) (p : Int) (v : Value) (e0 : Last) (l : List (ByteArray × Int)) (w : World) (hw : e0.wrong) (hc : Chain w e0 v l) :
    Calls Tryd.prog 10 #[.string s, .int .i64 p, v] w fun e w' => e = .returned (faultVal w.heap.size) ∧ w' = w.alloc (faultCells s p v) ∧ Chain w' e0 (faultVal w.heap.size) ((s, p) :: l) := by
  have hnew : ∀ v, Chain w e0 v l → Chain (w.alloc (faultCells s p v)) e0 (faultVal w.heap.size) ((s, p) :: l) := fun v h => .step _ _ _ _ _ (heap_new w _) (h.alloc _)
  have hN := hnew v hc
  cases hc with
  | base =>
    cases e0 with
    | num n => exact (In_num s p n hw w).mono fun e w' ⟨a, b⟩ => ⟨a, b, by subst b; exact hN⟩
    | plain a => exact (In_other s p _ _ (by decide) w).mono fun e w' ⟨a, b⟩ => ⟨a, b, by subst b; exact hN⟩
    | none => exact hw.elim
  | step => exact (In_other s p _ _ (by decide) w).mono fun e w' ⟨a, b⟩ => ⟨a, b, by subst b; exact hN⟩

/-- What fault.Of answers. -/
def Last.of : Last → Int | .num n => n | .plain _ => 2 | .none => 2

theorem Of_nil (w : World) : Calls Tryd.prog 12 #[.nilIface] w fun e w' => e = .returned (.int .i64 0) ∧ w' = w := by
  go_enter Tryd.func12, Tryd.ntmps12
  go_wp2
  go_ret
  exact ⟨rfl, rfl⟩

theorem below_grown {w w1 w' : World} (o : Obj) (h1 : w1 = w.alloc o) {r : Option Nat} (hg : w1.grownBy w' r) (hr : r = none ∨ r = some w.heap.size) : Below w.heap.size w w' := by
  subst h1
  refine ((Below.refl w.heap.size w).alloc (Nat.le_refl _) o).grown hg (by simp) ?_
  intro k hk
  rcases hr with rfl | rfl
  · cases hk
  · cases hk; exact Nat.le_refl _

set_option maxRecDepth 100000 in
theorem Of_num (v : Value) (l : List (ByteArray × Int)) (n : Int) (w : World) (hg : errorTypeLaid w) (hc : Chain w (.num n) v l) :
    Calls Tryd.prog 12 #[v] w fun e w' => e = .returned (.int .i64 n) ∧ Below w.heap.size w w' := by
  obtain ⟨T, x, rfl⟩ := hc.isIface (by intro h; cases h)
  have c := As_num (.iface T x) l n ⟨w.heap.size, 0, none⟩ (.int .i64 0) (w.alloc (.cells #[.int .i64 0] 33)) (cell_old _ _ _ _ hg) (hc.alloc _) (by simp) (by simp)
  go_enter Tryd.func12, Tryd.ntmps12
  go_wp2_with (go_at_call 20; refine c.mono ?_; rintro e w' ⟨rfl, hx, hg'⟩)
  go_ret
  exact ⟨rfl, below_grown _ rfl hg' (.inr rfl)⟩

set_option maxRecDepth 100000 in
theorem Of_plain (v : Value) (l : List (ByteArray × Int)) (q : Addr) (w : World) (hg : errorTypeLaid w) (hc : Chain w (.plain q) v l) :
    Calls Tryd.prog 12 #[v] w fun e w' => e = .returned (.int .i64 2) ∧ Below w.heap.size w w' := by
  obtain ⟨T, x, rfl⟩ := hc.isIface (by intro h; cases h)
  have c := As_numPlain (.iface T x) l q ⟨w.heap.size, 0, none⟩ (w.alloc (.cells #[.int .i64 0] 33)) (cell_old _ _ _ _ hg) (hc.alloc _)
  go_enter Tryd.func12, Tryd.ntmps12
  go_wp2_with (go_at_call 20; refine c.mono ?_; rintro e w' ⟨rfl, hg'⟩)
  go_ret
  exact ⟨rfl, below_grown _ rfl hg' (.inl rfl)⟩
end Go.Proofs.YtmkcpcndfddhoaaDoor

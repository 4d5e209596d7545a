/-
  What an error of the program is in memory: a chain of faults, from outside in, around a number, a plain error or nothing. Plain lemmas on it; no walk.
-/
import Derived.Test.YtmkcpcndfddhoaaDoorProg
import Derived.WalkKit
import Derived.LaidEql
import Derived.Stop.Asserts
import Derived.RowKitTokens
import Derived.Lib.Hide
namespace Go.Proofs.YtmkcpcndfddhoaaDoor
open Go.RowKit Go.Extern.Stop Go.Stop Go.Extern

/-- What stands at the end of a chain. -/
inductive Last where
  | num (n : Int)
  | plain (a : Addr)
  | none

def Last.val : Last → Value
  | .num n => .iface 33 (.int .i64 n)
  | .plain a => .iface 60 (.pointer (some a))
  | .none => .nilIface

abbrev faultVal (b : Nat) : Value := .iface 45 (.pointer (some ⟨b, 0, none⟩))
abbrev faultCells (s : ByteArray) (at_ : Int) (v : Value) : Obj := .cells #[.string s, .int .i64 at_, v] 47 (0, 0)

/-- v is an error: faults of these steps and places, from outside in, around e. -/
inductive Chain (w : World) (e : Last) : Value → List (ByteArray × Int) → Prop
  | base : Chain w e e.val []
  | step (b : Nat) (s : ByteArray) (at_ : Int) (v : Value) (l : List (ByteArray × Int)) : w.heap[b]? = some (faultCells s at_ v) → Chain w e v l → Chain w e (faultVal b) ((s, at_) :: l)

theorem Chain.keep {w w' : World} {e : Last} {v : Value} {l : List (ByteArray × Int)} (hk : ∀ k, k < w.heap.size → w'.heap[k]? = w.heap[k]?) (h : Chain w e v l) : Chain w' e v l := by
  induction h with
  | base => exact .base
  | step b s at_ v l hb _ ih =>
    refine .step b s at_ v l ?_ ih
    rw [hk b ?_]; · exact hb
    exact (Array.getElem?_eq_some_iff.1 hb).1

theorem Chain.under {w w' : World} {e : Last} {v : Value} {l : List (ByteArray × Int)} (hb : Below w.heap.size w w') (h : Chain w e v l) : Chain w' e v l := h.keep hb.block

theorem Chain.alloc {w : World} {e : Last} {v : Value} {l : List (ByteArray × Int)} (h : Chain w e v l) (o : Obj) : Chain (w.alloc o) e v l :=
  h.keep fun k hk => Below.heap_alloc w o k hk

theorem cells3 {w : World} {b : Nat} {x y z : Value} {t : TypeId} (h : w.heap[b]? = some (.cells #[x, y, z] t (0, 0))) :
    w.cell? ⟨b, 0, none⟩ = some x ∧ w.cell? ⟨b, 1, none⟩ = some y ∧ w.cell? ⟨b, 2, none⟩ = some z := by
  refine ⟨?_, ?_, ?_⟩ <;> simp [World.cell?, h]
end Go.Proofs.YtmkcpcndfddhoaaDoor

/-
  A world that meets the list of four laid variables: three tables of numbers, and the handle of 'error'.
-/
import Derived.Test.YtmkcpcndfddhoaaDoorCardKit
import Derived.LaidLaws
namespace Go.Proofs.YtmkcpcndfddhoaaDoor
open Go.ChangeShapes Go.WideShapes Go.ChangeAt Go.RowKit Go.Deep

/-- The cells of a datum that is a table of numbers. -/
def litCells : DataW Unit → Array Value
  | .agg l => (l.map fun | .lit (.int k n) => .int k n | _ => .nilIface).toArray
  | _ => #[]

/-- One variable's cells turned. -/
def laidAt (h : Array Obj) (g : Nat) (cs : Array Value) : Array Obj := h.modify g fun
  | .cells _ t frozen => .cells cs t frozen
  | o => o

noncomputable def tableWorld (os : Os) : World :=
  { laidWorld os with heap := laidAt (laidAt (laidAt (laidWorld os).heap 3 (litCells Rows.laid_math_bits_deBruijn32tab)) 4 (litCells Rows.laid_math_bits_deBruijn64tab)) 2 (litCells Rows.laid_internal_strconv_uint64pow10) }

end Go.Proofs.YtmkcpcndfddhoaaDoor

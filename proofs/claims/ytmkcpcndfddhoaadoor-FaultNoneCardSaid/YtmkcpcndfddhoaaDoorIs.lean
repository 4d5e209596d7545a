/-
  errors.Is over any chain: a number; a bare fault; what stands right behind.
-/
import Derived.Test.YtmkcpcndfddhoaaDoorWhere
import Derived.Deep.QuietTactic
import Derived.BigQuiet
import Derived.WalkSmall
namespace Go.Proofs.YtmkcpcndfddhoaaDoor
open Go.RowKit Go.Extern.Stop Go.Stop Go.Extern

theorem assertFault (v : Value) (xT : TypeId) (w : World) : (Instr.typeAssert (.iface 45 v) xT 45 true).run Tryd.prog w = .ok (.tuple #[v, .bool true]) w := by kernel_rfl
theorem assertNum (v : Value) (xT : TypeId) (w : World) : (Instr.typeAssert (.iface 33 v) xT 45 true).run Tryd.prog w = .ok (.tuple #[.pointer none, .bool false]) w := by kernel_rfl
theorem assertPlain (v : Value) (xT : TypeId) (w : World) : (Instr.typeAssert (.iface 60 v) xT 45 true).run Tryd.prog w = .ok (.tuple #[.pointer none, .bool false]) w := by kernel_rfl

theorem faultIs_num (b : Nat) (x : Value) (w : World) :
    Calls Tryd.prog 70 #[.pointer (some ⟨b, 0, none⟩), .iface 33 x] w fun e w' => e = .returned (.bool false) ∧ ∃ n, w' = w.drewN n := by
  have a1 := assertNum
  go_enter Tryd.func70, Tryd.ntmps70
  go_wp2
  go_quiet (fail)
  go_wp2
  go_ret
  exact ⟨rfl, _, rfl⟩
theorem faultIs_plain (b : Nat) (x : Value) (w : World) :
    Calls Tryd.prog 70 #[.pointer (some ⟨b, 0, none⟩), .iface 60 x] w fun e w' => e = .returned (.bool false) ∧ ∃ n, w' = w.drewN n := by
  have a1 := assertPlain
  go_enter Tryd.func70, Tryd.ntmps70
  go_wp2
  go_quiet (fail)
  go_wp2
  go_ret
  exact ⟨rfl, _, rfl⟩
theorem faultIs_behind (b tb : Nat) (T : Nat) (x : Value) (w : World) (h : w.cell? ⟨tb, 2, none⟩ = some (.iface T x)) :
    Calls Tryd.prog 70 #[.pointer (some ⟨b, 0, none⟩), faultVal tb] w fun e w' => e = .returned (.bool false) ∧ ∃ n, w' = w.drewN n := by
  have a1 := assertFault
  go_enter Tryd.func70, Tryd.ntmps70
  go_wp2
  go_quiet (fail)
  go_wp2
  go_ret
  exact ⟨rfl, _, rfl⟩
theorem faultIs_bare (b tb : Nat) (s s' : ByteArray) (w : World) (h0 : w.cell? ⟨tb, 0, none⟩ = some (.string s')) (h2 : w.cell? ⟨tb, 2, none⟩ = some .nilIface) (g0 : w.cell? ⟨b, 0, none⟩ = some (.string s)) :
    Calls Tryd.prog 70 #[.pointer (some ⟨b, 0, none⟩), faultVal tb] w fun e w' => e = .returned (.bool (s'.toList == s.toList)) ∧ ∃ n, w' = w.drewN n := by
  have a1 := assertFault
  go_enter Tryd.func70, Tryd.ntmps70
  go_wp2
  go_quiet (fail)
  go_wp2
  go_ret
  exact ⟨rfl, _, rfl⟩

theorem hasIsFault (v : Value) (xT : TypeId) (w : World) : (Instr.typeAssert (.iface 45 v) xT 89 true).run Tryd.prog w = .ok (.tuple #[.iface 45 v, .bool true]) w := run_typeAssert_hasB Tryd.underlying89 (by kernel_rfl) v xT w
theorem noIsNum (v : Value) (xT : TypeId) (w : World) : (Instr.typeAssert (.iface 33 v) xT 89 true).run Tryd.prog w = .ok (.tuple #[.nilIface, .bool false]) w := run_typeAssert_lacksB Tryd.underlying89 (by kernel_rfl) (by kernel_rfl) v xT w
theorem noIsPlain (v : Value) (xT : TypeId) (w : World) : (Instr.typeAssert (.iface 60 v) xT 89 true).run Tryd.prog w = .ok (.tuple #[.nilIface, .bool false]) w := run_typeAssert_lacksB Tryd.underlying89 (by kernel_rfl) (by kernel_rfl) v xT w

theorem Chain.drewN {w : World} {e : Last} {v : Value} {l : List (ByteArray × Int)} (n : Nat) (h : Chain w e v l) : Chain (w.drewN n) e v l := Chain.keep (w := w) (w' := w.drewN n) (fun _ _ => rfl) h

theorem Chain.of_nil {w : World} {e : Last} {v : Value} {l : List (ByteArray × Int)} (h : Chain w e v l) (hv : v = .nilIface) : l = [] := by
  cases h with
  | base => rfl
  | step => cases hv

set_option maxRecDepth 100000 in
set_option maxHeartbeats 1000000 in
theorem isLoop_num (v : Value) (l : List (ByteArray × Int)) (n m : Int) (w : World) (hc : Chain w (.num n) v l) :
    Calls Tryd.prog 25 #[v, .iface 33 (.int .i64 m), .bool true] w fun e w' => e = .returned (.bool (n == m)) ∧ ∃ k, w' = w.drewN k := by
  have eT := fun x w => eqTypes 45 33 x (.int .i64 m) (by decide) w
  have eN := eqNum n m
  have iF := hasIsFault
  have iN := noIsNum
  have uF := unwrapFault
  have uN := noUnwrapNum
  have usN := noUnwrapsNum
  go_enter Tryd.func25, Tryd.ntmps25
  go_wp2
  go_loopg [0] l.length (fun k x wr => Hid (∃ j l', wr = w.drewN j ∧ l'.length = k ∧ Chain w (.num n) x l'))
  case atStart => exact Lib.hid ⟨0, l, rfl, rfl, hc⟩
  case round =>
    obtain ⟨j, l', rfl, hl, hx⟩ := hrel.out
    have Hl := Lib.hid hl; clear hl hrel
    cases hx with
    | base =>
      simp only [Last.val]
      by_cases hnm : n = m
      · subst hnm
        have hnm : (n == n) = true := by simp
        rw [hnm] at eN
        go_wp2
        go_ret
        exact ⟨by simp, _, rfl⟩
      · have hnm' : (n == m) = false := by simpa using hnm
        have Hm := Lib.hid hnm'
        rw [hnm'] at eN
        clear hnm hnm'
        go_wp2
        go_ret
        exact ⟨by rw [Hm.out]; rfl, _, rfl⟩
    | step b s at_ v' l'' hb hx' =>
      obtain ⟨T, x, rfl⟩ := hx'.isIface (by intro h; cases h)
      have c2 := (cells3 hb).2.2
      have Hb := Lib.hid hb; clear hb
      go_wp2_with (first | (go_at_call 70; refine (faultIs_num b _ _).mono ?_; rintro e w' ⟨rfl, j1, rfl⟩) | (go_at_call 71; refine (faultUnwrap b (.iface T x) _ (by exact c2)).mono ?_; rintro e w' ⟨rfl, rfl⟩))
      go_roundg l''.length
      case rel => exact Lib.hid ⟨_, l'', rfl, rfl, hx'⟩
      case measure => have := Hl.out; simp at this; omega

/-- Is the step one of a chain's? -/
def within (s : ByteArray) (l : List (ByteArray × Int)) : Bool := l.any fun x => s.toList == x.1.toList

set_option maxRecDepth 100000 in
set_option maxHeartbeats 2000000 in
theorem isLoop_bare (v : Value) (l : List (ByteArray × Int)) (e0 : Last) (s : ByteArray) (tb : Nat) (w : World) (hv : v ≠ .nilIface) (hc : Chain w e0 v l) (hne : ∀ k q p u, w.heap[k]? = some (faultCells q p u) → k ≠ tb) (p0 : Int) (W : World) (hWb : Below w.heap.size w W) (htb : W.heap[tb]? = some (faultCells s p0 .nilIface)) :
    Calls Tryd.prog 25 #[v, faultVal tb, .bool true] W fun e w' => e = .returned (.bool (within s l)) ∧ ∃ k, w' = W.drewN k := by
  have eN := fun n w => eqTypes 33 45 (.int .i64 n) (.pointer (some ⟨tb, 0, none⟩)) (by decide) w
  have eP := fun q w => eqTypes 60 45 (.pointer (some q)) (.pointer (some ⟨tb, 0, none⟩)) (by decide) w
  have iF := hasIsFault
  have iN := noIsNum
  have iP := noIsPlain
  have uF := unwrapFault
  have uN := noUnwrapNum
  have usN := noUnwrapsNum
  have uP := noUnwrapPlain
  have usP := noUnwrapsPlain
  obtain ⟨i, hi, hcmp⟩ := Option.map_eq_some_iff.1 (show (Tryd.prog.info? 45).map (·.comparable) = some true by kernel_rfl)
  obtain ⟨j0, hj, hjs⟩ := Option.map_eq_some_iff.1 (show (Tryd.prog.info? 47).map (·.size) = some 3 by kernel_rfl)
  obtain ⟨t0, _, t2⟩ := cells3 htb
  have Htb := Lib.hid htb
  have HNE := Lib.hid hne
  clear htb hne
  go_enter Tryd.func25, Tryd.ntmps25
  go_wp2
  go_loopg [0] l.length (fun k x wr => Hid (∃ j l', wr = W.drewN j ∧ l'.length = k ∧ x ≠ .nilIface ∧ Chain w e0 x l' ∧ within s l = within s l'))
  case atStart => exact Lib.hid ⟨0, l, rfl, rfl, hv, hc, rfl⟩
  case round =>
    obtain ⟨j, l', rfl, hl, hx0, hx, hwi⟩ := hrel.out
    have Hl := Lib.hid hl; have Hw := Lib.hid hwi; clear hl hrel hwi
    cases hx with
    | base =>
      cases e0 with
      | none => exact absurd rfl hx0
      | num n =>
        simp only [Last.val]
        go_wp2
        go_ret
        exact ⟨by rw [Hw.out]; rfl, _, rfl⟩
      | plain q =>
        simp only [Last.val]
        go_wp2
        go_ret
        exact ⟨by rw [Hw.out]; rfl, _, rfl⟩
    | step b s1 at_ v' l'' hb hx' =>
      have hbs : b ≠ tb := HNE.out b _ _ _ hb
      have hbW : W.heap[b]? = some (faultCells s1 at_ v') := (hWb.block b (Array.getElem?_eq_some_iff.1 hb).1).trans hb
      have eF := fun k => run_eql_iface_ptr_other (P := Tryd.prog) (W.drewN k) (a := ⟨b, 0, none⟩) (b := ⟨tb, 0, none⟩) Tryd.underlying25 Tryd.underlying45 hi hcmp hj (by rw [hjs]; decide) (by intro e; cases e; exact hbs rfl) (by simpa using hbW) (by simpa using Htb.out)
      obtain ⟨c0, _, c2⟩ := cells3 hbW
      have Hb := Lib.hid hbW; clear hbW hbs hb
      have HX := Lib.hid hx'
      by_cases hs : (s.toList == s1.toList) = true
      · go_wp2_with (go_at_call 70; refine (faultIs_bare b tb s1 s _ (by exact t0) (by exact t2) (by exact c0)).mono ?_; rintro e w' ⟨rfl, j1, rfl⟩)
        go_ret
        exact ⟨by rw [Hw.out]; simp [within, hs], _, rfl⟩
      · have hs' : (s.toList == s1.toList) = false := by simpa using hs
        clear hs
        by_cases hvn : v' = .nilIface
        · subst hvn
          go_wp2_with (first | (go_at_call 70; refine (faultIs_bare b tb s1 s _ (by exact t0) (by exact t2) (by exact c0)).mono ?_; rintro e w' ⟨rfl, j1, rfl⟩) | (go_at_call 71; refine (faultUnwrap b .nilIface _ (by exact c2)).mono ?_; rintro e w' ⟨rfl, rfl⟩))
          go_ret
          have hl0 : l'' = [] := HX.out.of_nil rfl
          exact ⟨by rw [Hw.out]; subst hl0; simp [within, hs'], _, rfl⟩
        · obtain ⟨T, x, rfl⟩ : ∃ T x, v' = .iface T x := by
            cases hx' with
            | base =>
              cases e0 with
              | num n => exact ⟨_, _, rfl⟩
              | plain a => exact ⟨_, _, rfl⟩
              | none => exact absurd rfl hvn
            | step => exact ⟨_, _, rfl⟩
          clear hx'
          have HVN := Lib.hid hvn
          clear hvn
          go_wp2_with (first | (go_at_call 70; refine (faultIs_bare b tb s1 s _ (by exact t0) (by exact t2) (by exact c0)).mono ?_; rintro e w' ⟨rfl, j1, rfl⟩) | (go_at_call 71; refine (faultUnwrap b (.iface T x) _ (by exact c2)).mono ?_; rintro e w' ⟨rfl, rfl⟩))
          go_roundg l''.length
          case rel => exact Lib.hid ⟨_, l'', rfl, rfl, HVN.out, HX.out, by rw [Hw.out]; simp [within, hs']⟩
          case measure => have := Hl.out; simp at this; omega

/-! ### errors.Is, whole -/
theorem comparableNum (w : World) : ((ReflectliteType.method fun t => do Rtype.noPackHeld "Comparable" t; pure (.bool (← typeInfo t).comparable)) #[.agg #[.pointer (some ⟨5, 33, none⟩)]]).run Tryd.prog w = .ok (.bool true) w := by kernel_rfl
theorem comparableFault (w : World) : ((ReflectliteType.method fun t => do Rtype.noPackHeld "Comparable" t; pure (.bool (← typeInfo t).comparable)) #[.agg #[.pointer (some ⟨5, 45, none⟩)]]).run Tryd.prog w = .ok (.bool true) w := by kernel_rfl
theorem comparablePlain (w : World) : ((ReflectliteType.method fun t => do Rtype.noPackHeld "Comparable" t; pure (.bool (← typeInfo t).comparable)) #[.agg #[.pointer (some ⟨5, 60, none⟩)]]).run Tryd.prog w = .ok (.bool true) w := by kernel_rfl
theorem xComparable : ∀ (args : Array Value) (w : World), (callFunc 79 args).run Tryd.prog w = (((ReflectliteType.method fun t => do Rtype.noPackHeld "Comparable" t; pure (.bool (← typeInfo t).comparable)) args).run Tryd.prog w).andThen fun v w' => .ok (Next.value v) w' :=
  @run_callFunc_extern Tryd.prog 79 _ (ReflectliteType.method fun t => do Rtype.noPackHeld "Comparable" t; pure (.bool (← typeInfo t).comparable)) Tryd.func79 (by kernel_rfl) (by kernel_rfl) (by kernel_rfl) (by kernel_rfl)

theorem callComparableNum (w : World) : (callFunc 79 #[.agg #[.pointer (some ⟨5, 33, none⟩)]]).run Tryd.prog w = .ok (Next.value (.bool true)) w := by rw [xComparable, comparableNum]; rfl
theorem callComparableFault (w : World) : (callFunc 79 #[.agg #[.pointer (some ⟨5, 45, none⟩)]]).run Tryd.prog w = .ok (Next.value (.bool true)) w := by rw [xComparable, comparableFault]; rfl
theorem callComparablePlain (w : World) : (callFunc 79 #[.agg #[.pointer (some ⟨5, 60, none⟩)]]).run Tryd.prog w = .ok (Next.value (.bool true)) w := by rw [xComparable, comparablePlain]; rfl

theorem Is_num (v : Value) (l : List (ByteArray × Int)) (n m : Int) (w : World) (hc : Chain w (.num n) v l) :
    Calls Tryd.prog 14 #[v, .iface 33 (.int .i64 m)] w fun e w' => e = .returned (.bool (n == m)) ∧ ∃ k, w' = w.drewN k := by
  have c := isLoop_num v l n m w hc
  obtain ⟨T, x, rfl⟩ := hc.isIface (by intro h; cases h)
  have h1 := xTypeOf
  have h2 := callComparableNum
  have h3 := typeOfNum
  go_enter Tryd.func14, Tryd.ntmps14
  go_wp2_with (go_at_call 25; refine c.mono ?_; rintro e w' ⟨rfl, k, rfl⟩)
  go_ret
  exact ⟨rfl, _, rfl⟩

theorem Is_bare (v : Value) (l : List (ByteArray × Int)) (e0 : Last) (s : ByteArray) (tb : Nat) (w : World) (hv : v ≠ .nilIface) (hc : Chain w e0 v l) (hne : ∀ k q p u, w.heap[k]? = some (faultCells q p u) → k ≠ tb) (p0 : Int) (W : World) (hWb : Below w.heap.size w W) (htb : W.heap[tb]? = some (faultCells s p0 .nilIface)) :
    Calls Tryd.prog 14 #[v, faultVal tb] W fun e w' => e = .returned (.bool (within s l)) ∧ ∃ k, w' = W.drewN k := by
  have c := isLoop_bare v l e0 s tb w hv hc hne p0 W hWb htb
  obtain ⟨T, x, rfl⟩ : ∃ T x, v = .iface T x := by
    cases hc with
    | base =>
      cases e0 with
      | num n => exact ⟨_, _, rfl⟩
      | plain a => exact ⟨_, _, rfl⟩
      | none => exact absurd rfl hv
    | step => exact ⟨_, _, rfl⟩
  have h1 := xTypeOf
  have h2 := callComparableFault
  have h3 := typeOfFault
  clear hne hv
  go_enter Tryd.func14, Tryd.ntmps14
  go_wp2_with (go_at_call 25; refine c.mono ?_; rintro e w' ⟨rfl, k, rfl⟩)
  go_ret
  exact ⟨rfl, _, rfl⟩

/-- fault.Has. -/
theorem Has_num (v : Value) (l : List (ByteArray × Int)) (n m : Int) (w : World) (hc : Chain w (.num n) v l) :
    Calls Tryd.prog 16 #[v, .int .i64 m] w fun e w' => e = .returned (.bool (n == m)) ∧ ∃ k, w' = w.drewN k := by
  have c := Is_num v l n m w hc
  go_enter Tryd.func16, Tryd.ntmps16
  go_wp2_with (go_at_call 14; refine c.mono ?_; rintro e w' ⟨rfl, k, rfl⟩)
  go_ret
  exact ⟨rfl, _, rfl⟩

/-- fault.Within. -/
theorem Within_chain (v : Value) (l : List (ByteArray × Int)) (e0 : Last) (s : ByteArray) (w : World) (hv : v ≠ .nilIface) (hc : Chain w e0 v l) :
    Calls Tryd.prog 15 #[v, .string s] w fun e w' => e = .returned (.bool (within s l)) ∧ Below w.heap.size w w' := by
  have c := Is_bare v l e0 s w.heap.size w hv hc (fun k q p u h => Nat.ne_of_lt (Array.getElem?_eq_some_iff.1 h).1) 0 (w.alloc (faultCells s 0 .nilIface)) ((Below.refl _ _).alloc (Nat.le_refl _) _) (heap_new w _)
  clear hv
  go_enter Tryd.func15, Tryd.ntmps15
  go_wp2_with (go_at_call 14; refine c.mono ?_; rintro e w' ⟨rfl, k, rfl⟩)
  go_ret
  exact ⟨rfl, below_drewN (((Below.refl _ _).alloc (Nat.le_refl _) _)) _⟩
end Go.Proofs.YtmkcpcndfddhoaaDoor

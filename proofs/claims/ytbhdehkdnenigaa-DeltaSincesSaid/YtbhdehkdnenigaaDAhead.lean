/- Walks: the order of versions, by all three packages; versions alike. -/
import Derived.Test.YtbhdehkdnenigaaDBytes
set_option linter.unusedVariables false
set_option linter.unusedSimpArgs false
namespace Go.Proofs.Ytbhdehkdnenigaa
open Go.RowKit Go.Proofs.YtbhdehkdnenigaaW.PrintWords
attribute [local go_sem] Vn.val

def va (x y : Vn) : Bool := Op.bytesLess x.key.toList y.key.toList || (x.key.toList == y.key.toList && decide (x.seq < y.seq))
theorem below2 (w : World) (o p : Obj) : Below w.heap.size w ((w.alloc o).alloc p) := ((Below.refl _ _).alloc (Nat.le_refl _) _).alloc (by simp [go_sem]) _
set_option maxHeartbeats 400000 in
theorem ahead15_any (x y : Vn) (A B : Option Addr) (c d : Nat) (w : World) : Calls Try.prog 31 #[x.val A c, y.val B d] w fun e w' => e = .returned (.bool (va x y)) ∧ Below w.heap.size w w' := by
  have hv : va x y = (Op.bytesLess x.key.toList y.key.toList || (x.key.toList == y.key.toList && decide (x.seq < y.seq))) := rfl
  cases c1 : x.key.toList == y.key.toList with
  | true =>
    have h0 : Op.bytesLess x.key.toList y.key.toList = false := by rw [beq_iff_eq.1 c1, bl_irr]
    rw [h0, c1, Bool.false_or, Bool.true_and] at hv
    have HV := Lib.hid hv
    clear hv h0
    go_enter Try.func31, Try.ntmps31
    go_wp2
    go_ret
    exact ⟨ret_bool HV.out.symm, below2 _ _ _⟩
  | false =>
    rw [c1, Bool.false_and, Bool.or_false] at hv
    have HV := Lib.hid hv
    clear hv
    go_enter Try.func31, Try.ntmps31
    go_wp2
    go_ret
    exact ⟨ret_bool HV.out.symm, below2 _ _ _⟩
set_option maxHeartbeats 400000 in
theorem ahead_any (x y : Vn) (A B : Option Addr) (c d : Nat) (w : World) : Calls Try.prog 46 #[x.val A c, y.val B d] w fun e w' => e = .returned (.bool (va x y)) ∧ Below w.heap.size w w' := by
  have hv : va x y = (Op.bytesLess x.key.toList y.key.toList || (x.key.toList == y.key.toList && decide (x.seq < y.seq))) := rfl
  cases c1 : Op.bytesLess x.key.toList y.key.toList with
  | true =>
    rw [c1, Bool.true_or] at hv
    have HV := Lib.hid hv
    clear hv
    go_enter Try.func46, Try.ntmps46
    go_wp2
    go_ret
    exact ⟨ret_bool HV.out.symm, below2 _ _ _⟩
  | false =>
    rw [c1, Bool.false_or] at hv
    cases c2 : x.key.toList == y.key.toList with
    | true =>
      rw [c2, Bool.true_and] at hv
      have HV := Lib.hid hv
      clear hv
      go_enter Try.func46, Try.ntmps46
      go_wp2
      go_ret
      exact ⟨ret_bool HV.out.symm, below2 _ _ _⟩
    | false =>
      rw [c2, Bool.false_and] at hv
      have HV := Lib.hid hv
      clear hv
      go_enter Try.func46, Try.ntmps46
      go_wp2
      go_ret
      exact ⟨ret_bool HV.out.symm, below2 _ _ _⟩
set_option maxHeartbeats 400000 in
theorem ahead19_any (x y : Vn) (A B : Option Addr) (c d : Nat) (w : World) : Calls Try.prog 38 #[x.val A c, y.val B d] w fun e w' => e = .returned (.bool (va x y)) ∧ Below w.heap.size w w' := by
  have hv : va x y = (Op.bytesLess x.key.toList y.key.toList || (x.key.toList == y.key.toList && decide (x.seq < y.seq))) := rfl
  cases c1 : Op.bytesLess x.key.toList y.key.toList with
  | true =>
    rw [c1, Bool.true_or] at hv
    have HV := Lib.hid hv
    clear hv
    go_enter Try.func38, Try.ntmps38
    go_wp2
    go_ret
    exact ⟨ret_bool HV.out.symm, below2 _ _ _⟩
  | false =>
    rw [c1, Bool.false_or] at hv
    cases c2 : x.key.toList == y.key.toList with
    | true =>
      rw [c2, Bool.true_and] at hv
      have HV := Lib.hid hv
      clear hv
      go_enter Try.func38, Try.ntmps38
      go_wp2
      go_ret
      exact ⟨ret_bool HV.out.symm, below2 _ _ _⟩
    | false =>
      rw [c2, Bool.false_and] at hv
      have HV := Lib.hid hv
      clear hv
      go_enter Try.func38, Try.ntmps38
      go_wp2
      go_ret
      exact ⟨ret_bool HV.out.symm, below2 _ _ _⟩
end Go.Proofs.Ytbhdehkdnenigaa

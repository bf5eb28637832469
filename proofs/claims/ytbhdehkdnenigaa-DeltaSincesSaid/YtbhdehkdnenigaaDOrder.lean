/- Walks: cmp.Compare, cmp.Or, delta.order. -/
import Derived.Test.YtbhdehkdnenigaaDLaw1
set_option linter.unusedVariables false
set_option linter.unusedSimpArgs false
namespace Go.Proofs.Ytbhdehkdnenigaa
open Go.RowKit Go.Proofs.YtbhdehkdnenigaaW.PrintWords
attribute [local go_sem] Vn.val Vn.with

def cmpS (a b : ByteArray) : Int := if Op.bytesLess a.toList b.toList then -1 else if Op.bytesLess b.toList a.toList then 1 else 0
def cmpI (a b : Int) : Int := if a < b then -1 else if b < a then 1 else 0
theorem nanS (a : ByteArray) (w : World) : Calls Try.prog 57 #[.string a] w fun e w' => e = .returned (.bool false) ∧ w = w' := by
  go_enter Try.func57, Try.ntmps57
  go_wp2
  go_ret
  exact ⟨by simp, rfl⟩
theorem nanI (a : Int) (w : World) : Calls Try.prog 58 #[.int .i64 a] w fun e w' => e = .returned (.bool false) ∧ w = w' := by
  go_enter Try.func58, Try.ntmps58
  go_wp2
  go_ret
  exact ⟨by simp, rfl⟩
set_option maxHeartbeats 400000 in
theorem cmpS_any (a b : ByteArray) (w : World) : Calls Try.prog 50 #[.string a, .string b] w fun e w' => e = .returned (.int .i64 (cmpS a b)) ∧ w = w' := by
  have hle := bl_le b.toList a.toList
  have hv : cmpS a b = if Op.bytesLess a.toList b.toList then -1 else if Op.bytesLess b.toList a.toList then 1 else 0 := rfl
  have hA := fun w' => Lib.hid (nanS a w')
  have hB := fun w' => Lib.hid (nanS b w')
  cases c1 : Op.bytesLess a.toList b.toList with
  | true =>
    rw [c1] at hv hle
    have HV : Hid (cmpS a b = -1) := by show _ = _; rw [hv]; rfl
    clear hv hle
    go_enter Try.func50, Try.ntmps50
    go_wp2_with fail
    refine (hA _).out.mono ?_
    rintro e1 w1 ⟨rfl, rfl⟩
    go_wp2_with fail
    refine (hB _).out.mono ?_
    rintro e2 w2 ⟨rfl, rfl⟩
    go_wp2
    go_ret
    exact ⟨ret_int HV.out.symm, rfl⟩
  | false =>
    rw [c1] at hv
    cases c2 : Op.bytesLess b.toList a.toList with
    | true =>
      rw [c2] at hv
      have c3 : (a.toList == b.toList) = false := by
        rw [beq_eq_false_iff_ne]
        intro h
        rw [h, bl_irr] at c2
        cases c2
      have HV : Hid (cmpS a b = 1) := by show _ = _; rw [hv]; rfl
      clear hv hle
      go_enter Try.func50, Try.ntmps50
      go_wp2_with fail
      refine (hA _).out.mono ?_
      rintro e1 w1 ⟨rfl, rfl⟩
      go_wp2_with fail
      refine (hB _).out.mono ?_
      rintro e2 w2 ⟨rfl, rfl⟩
      go_wp2
      go_ret
      exact ⟨ret_int HV.out.symm, rfl⟩
    | false =>
      rw [c2] at hv
      have c3 : a.toList = b.toList := by
        rcases bl_tri a.toList b.toList with h | h | h
        · rw [c1] at h; cases h
        · exact h
        · rw [c2] at h; cases h
      have c4 : (a.toList == b.toList) = true := by rw [c3]; simp
      have HV : Hid (cmpS a b = 0) := by show _ = _; rw [hv]; rfl
      clear hv hle c3
      go_enter Try.func50, Try.ntmps50
      go_wp2_with fail
      refine (hA _).out.mono ?_
      rintro e1 w1 ⟨rfl, rfl⟩
      go_wp2_with fail
      refine (hB _).out.mono ?_
      rintro e2 w2 ⟨rfl, rfl⟩
      go_wp2
      go_ret
      exact ⟨ret_int HV.out.symm, rfl⟩
set_option maxHeartbeats 400000 in
theorem cmpI_any (a b : Int) (w : World) : Calls Try.prog 51 #[.int .i64 a, .int .i64 b] w fun e w' => e = .returned (.int .i64 (cmpI a b)) ∧ w = w' := by
  have hA := fun w' => Lib.hid (nanI a w')
  have hB := fun w' => Lib.hid (nanI b w')
  have HV : Hid (cmpI a b = if a < b then -1 else if b < a then 1 else 0) := rfl
  go_enter Try.func51, Try.ntmps51
  go_wp2_with fail
  refine (hA _).out.mono ?_
  rintro e1 w1 ⟨rfl, rfl⟩
  go_wp2_with fail
  refine (hB _).out.mono ?_
  rintro e2 w2 ⟨rfl, rfl⟩
  go_wp2
  all_goals (go_ret; refine ⟨ret_int ?_, rfl⟩; rw [HV.out]; repeat' split) 
  all_goals first | rfl | omega
end Go.Proofs.Ytbhdehkdnenigaa

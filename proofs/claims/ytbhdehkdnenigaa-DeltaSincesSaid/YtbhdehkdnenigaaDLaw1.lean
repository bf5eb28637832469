/- Walks: the document's Since of a bad number; two deltas alike. -/
import Derived.Test.YtbhdehkdnenigaaDAdded
set_option linter.unusedVariables false
set_option linter.unusedSimpArgs false
namespace Go.Proofs.Ytbhdehkdnenigaa
open Go.RowKit Go.Proofs.YtbhdehkdnenigaaW.PrintWords
attribute [local go_sem] Vn.val Vn.with

set_option maxRecDepth 100000 in
theorem since19_bad (l : List Vn) (nx m : Int) (A : Option Addr) (c : Nat) (w : World) (h : m < 1 ∨ nx < m) :
    Calls Try.prog 11 #[.agg #[.int .i64 nx, .slice A l.length c], .int .i64 m] w fun e w' => e = .returned (.tuple #[noDelta, .int .i64 1]) ∧ Below w.heap.size w w' := by
  by_cases h1 : m < 1
  · have t1 : decide (m < 1) = true := by simp; omega
    go_enter Try.func11, Try.ntmps11
    go_wp2
    refine bodyPost_ret (v := .tuple #[noDelta, .int .i64 1]) (by simp [results, Try.results11, go_sem, noDelta]) rfl ?_
    exact ⟨rfl, below2 _ _ _⟩
  · have t1 : decide (m < 1) = false := by simp; omega
    have t2 : decide (nx < m) = true := by simp; omega
    go_enter Try.func11, Try.ntmps11
    go_wp2
    refine bodyPost_ret (v := .tuple #[noDelta, .int .i64 1]) (by simp [results, Try.results11, go_sem, noDelta]) rfl ?_
    exact ⟨rfl, below2 _ _ _⟩
set_option maxRecDepth 100000 in
set_option maxHeartbeats 1000000 in
theorem same19_any (l m : List Vn) (sa na sb nb : Int) (A B : Option Addr) (c d : Nat) (w : World) (hC : kVn.C w A l.length l) (hD : kVn.C w B m.length m) (hc : l.length ≤ c) (hd : m.length ≤ d) :
    Calls Try.prog 13 #[.agg #[.int .i64 sa, .int .i64 na, .slice A l.length c], .agg #[.int .i64 sb, .int .i64 nb, .slice B m.length d]] w fun e w' => e = .returned (.bool (sa == sb && (na == nb && sVns l m))) ∧ Below w.heap.size w w' := by
  have HS := fun w' (h : Below w.heap.size w w') => Lib.hid (same_any l m na nb A B c d w' (Kd.C_below hC h) (Kd.C_below hD h) hc hd)
  clear hC hD
  cases c0 : sa == sb with
  | false =>
    go_enter Try.func13, Try.ntmps13
    go_wp2
    go_ret
    exact ⟨by simp, below2 _ _ _⟩
  | true =>
    rw [Bool.true_and]
    generalize (na == nb && sVns l m) = r at *
    go_enter Try.func13, Try.ntmps13
    go_wp2_with (go_at_call 18; refine (HS _ (below2 _ _ _)).out.mono ?_; rintro e w' ⟨rfl, hb2⟩)
    go_ret
    exact ⟨rfl, (below2 _ _ _).trans (hb2.mono (by simp [go_sem]; omega))⟩
end Go.Proofs.Ytbhdehkdnenigaa

/- Walks: cmp.Or of two, delta.order. -/
import Derived.Test.YtbhdehkdnenigaaDOrder
set_option linter.unusedVariables false
set_option linter.unusedSimpArgs false
namespace Go.Proofs.Ytbhdehkdnenigaa
open Go.RowKit Go.Proofs.YtbhdehkdnenigaaW.PrintWords
attribute [local go_sem] Vn.val Vn.with

set_option maxHeartbeats 400000 in
theorem or2_any (a b : Int) (g : Nat) (w : World) (h0 : w.cell? ⟨g, 0, none⟩ = some (.int .i64 a)) (h1 : w.cell? ⟨g, 1, none⟩ = some (.int .i64 b)) : Calls Try.prog 49 #[.slice (some ⟨g, 0, none⟩) 2 2] w fun e w' => e = .returned (.int .i64 (if a = 0 then b else a)) ∧ w = w' := by
  by_cases ha : a = 0
  · subst ha
    by_cases hb : b = 0
    · subst hb
      go_enter Try.func49, Try.ntmps49
      go_wp2
      refine wp_loop_rounds 3 ?_
      rw [rounds_succ]
      go_wp2
      rw [rounds_succ]
      go_wp2
      rw [rounds_succ]
      go_wp2
      go_ret
      exact ⟨by simp, rfl⟩
    · have b1 : (b != 0) = true := bne_iff_ne.2 hb
      have b2 : (b == 0) = false := beq_eq_false_iff_ne.2 hb
      go_enter Try.func49, Try.ntmps49
      go_wp2
      refine wp_loop_rounds 2 ?_
      rw [rounds_succ]
      go_wp2
      rw [rounds_succ]
      go_wp2
      go_ret
      exact ⟨by simp, rfl⟩
  · have b1 : (a != 0) = true := bne_iff_ne.2 ha
    have b2 : (a == 0) = false := beq_eq_false_iff_ne.2 ha
    have HE : Hid ((if a = 0 then b else a) = a) := if_neg ha
    go_enter Try.func49, Try.ntmps49
    go_wp2
    refine wp_loop_rounds 1 ?_
    rw [rounds_succ]
    go_wp2
    go_ret
    exact ⟨ret_int (by first | exact HE.out.symm | rfl), rfl⟩
def ordE (x y : Vn) : Int := if cmpS x.key y.key = 0 then cmpI x.seq y.seq else cmpS x.key y.key
set_option maxRecDepth 100000 in
set_option maxHeartbeats 1000000 in
theorem order_any (x y : Vn) (A B : Option Addr) (c d : Nat) (w : World) : Calls Try.prog 37 #[x.val A c, y.val B d] w fun e w' => e = .returned (.int .i64 (ordE x y)) ∧ Below w.heap.size w w' := by
  have HS := fun w' => Lib.hid (cmpS_any x.key y.key w')
  have HI := fun w' => Lib.hid (cmpI_any x.seq y.seq w')
  have HE : Hid (ordE x y = if cmpS x.key y.key = 0 then cmpI x.seq y.seq else cmpS x.key y.key) := rfl
  generalize cmpS x.key y.key = a at *
  generalize cmpI x.seq y.seq = b at *
  generalize ordE x y = r at *
  have HO : ∀ g w', w'.cell? ⟨g, 0, none⟩ = some (.int .i64 a) → w'.cell? ⟨g, 1, none⟩ = some (.int .i64 b) → Hid (Calls Try.prog 49 #[.slice (some ⟨g, 0, none⟩) 2 2] w' fun e w'' => e = .returned (.int .i64 r) ∧ w' = w'') := fun g w' h0 h1 => by
    have := or2_any a b g w' h0 h1
    rw [← HE.out] at this
    exact this
  go_enter Try.func37, Try.ntmps37
  go_wp2
  first
    | (go_loud (go_region_held3 (fun W => W.cell? ⟨w.heap.size, 0, none⟩ = some (.string x.key) ∧ W.cell? ⟨w.heap.size + 1, 0, none⟩ = some (.string y.key) ∧ W.cell? ⟨w.heap.size, 1, none⟩ = some (.int .i64 x.seq) ∧ W.cell? ⟨w.heap.size + 1, 1, none⟩ = some (.int .i64 y.seq))
        (first | assumption | go_keep)
        (first | (go_at_call 50; refine (HS _).out.mono ?_; rintro e w' ⟨rfl, rfl⟩) | (go_at_call 51; refine (HI _).out.mono ?_; rintro e w' ⟨rfl, rfl⟩) | (go_at_call 49; refine (HO _ _ ?h0 ?h1).out.mono ?hn; (case h0 => simp [go_sem]); (case h1 => simp [go_sem]); rintro e w' ⟨rfl, rfl⟩))))
    | fail
  all_goals go_wp2
  all_goals go_ret
  all_goals exact ⟨rfl, Below.alloc (Below.drew (below2 _ _ _)) (by simp [go_sem]; omega) _⟩
end Go.Proofs.Ytbhdehkdnenigaa

/- Walks: a version with pairs of its own. -/
import Derived.Test.YtbhdehkdnenigaaDSame
set_option linter.unusedVariables false
set_option linter.unusedSimpArgs false
namespace Go.Proofs.Ytbhdehkdnenigaa
open Go.RowKit Go.Proofs.YtbhdehkdnenigaaW.PrintWords
attribute [local go_sem] Vn.val

/-- a version as a value, its pairs' list as it stands -/
def Vn.with (x : Vn) (v : Value) : Value := .agg #[.string x.key, .int .i64 x.seq, .bool x.gone, .string x.data, v]
theorem pr_info : (Try.prog.info? 60).map (fun i => (i.zero, i.size, i.bytes)) = some (some (.agg #[.string ⟨#[]⟩, .string ⟨#[]⟩]), 2, 32) := by kernel_rfl
theorem kPr_KM (w : World) (base : Nat) (ok : Nat → Prop) (x : Pr) (cs : List Value) (h : kPr.K w x cs) : kPr.M w base ok x cs := by
  obtain rfl := kPr_open h
  exact kPr_mkM _ _ _ _
/-- two boxes, behind whatever has left them -/
theorem box2_a {w W : World} {cs ds : Array Value} {t u : TypeId} (hB : Below (w.heap.size + 2) ((w.alloc (.cells cs t)).alloc (.cells ds u)) W) {i : Nat} {v : Value} (h : cs[i]? = some v) : W.cell? ⟨w.heap.size, i, none⟩ = some v := by
  rw [hB.cell (show w.heap.size < w.heap.size + 2 by omega)]
  simp [go_sem, h]
theorem box2_b {w W : World} {cs ds : Array Value} {t u : TypeId} (hB : Below (w.heap.size + 2) ((w.alloc (.cells cs t)).alloc (.cells ds u)) W) {i : Nat} {v : Value} (h : ds[i]? = some v) : W.cell? ⟨w.heap.size + 1, i, none⟩ = some v := by
  rw [hB.cell (show w.heap.size + 1 < w.heap.size + 2 by omega)]
  simp [go_sem, h]
theorem box2_fa {w W : World} {cs ds : Array Value} {t u : TypeId} (hB : Below (w.heap.size + 2) ((w.alloc (.cells cs t)).alloc (.cells ds u)) W) (i : Nat) : W.frozen? ⟨w.heap.size, i, none⟩ = false := by
  rw [hB.frozen (show w.heap.size < w.heap.size + 2 by omega)]
  simp [go_sem]
theorem box2_fb {w W : World} {cs ds : Array Value} {t u : TypeId} (hB : Below (w.heap.size + 2) ((w.alloc (.cells cs t)).alloc (.cells ds u)) W) (i : Nat) : W.frozen? ⟨w.heap.size + 1, i, none⟩ = false := by
  rw [hB.frozen (show w.heap.size + 1 < w.heap.size + 2 by omega)]
  simp [go_sem]
theorem box2_below {w W : World} {o p : Obj} (hB : Below (w.heap.size + 2) ((w.alloc o).alloc p) W) : Below w.heap.size w W := (below2 w o p).trans (hB.mono (by omega))
set_option maxRecDepth 100000 in
set_option maxHeartbeats 1000000 in
theorem own_any (x : Vn) (A : Option Addr) (c : Nat) (w : World) (hC : kPr.C w A x.pairs.length x.pairs) (hl : x.pairs.length ≤ c) (hcap : x.pairs.length * 32 ≤ 140737488355328) :
    Calls Try.prog 29 #[x.val A c] w fun e w' => ∃ v, e = .returned (x.with v) ∧ kPr.R 60 w' w.heap.size (fun _ => True) v x.pairs ∧ Below w.heap.size w w' := by
  unfold Vn.with
  have HC := Lib.hid (Kd.C_below hC (below2 w (.cells #[.string x.key, .int .i64 x.seq, .bool x.gone, .string x.data, .slice A x.pairs.length c] 48) (.cells #[.string ⟨#[]⟩, .int .i64 0, .bool false, .string ⟨#[]⟩, .slice none 0 0] 48)))
  clear hC
  go_enter Try.func29, Try.ntmps29
  go_wp2_with (at_builtin; refine Kd.R_append_rows kPr (Rr := kPr.K _) (w.heap.size + 2) rfl _ _ 46 60 _ 32 rfl Try.underlying46 pr_info rfl (by decide) (by decide) (.slice none 0 0) [] x.pairs A x.pairs.length c (fun _ => True) (fun _ => False) rfl rfl (Kd.R_nil _ _ _ _ _) HC.out (fun _ _ h => kPr_KM _ _ _ _ _ h) (fun _ h => h.elim) (fun _ _ => trivial) (Below.refl _ _) (by simp [go_sem]) (by simpa using hcap) ?_; intro v1 w1 hR hB hg hat; rw [List.nil_append] at hR; obtain ⟨A1, c1, rfl⟩ := Kd.R_slice hR; clear hg hat; have HR := Lib.hid hR; clear hR; have a0 := box2_a hB (i := 0) rfl; have a1 := box2_a hB (i := 1) rfl; have a2 := box2_a hB (i := 2) rfl; have a3 := box2_a hB (i := 3) rfl; have a4 := box2_a hB (i := 4) rfl; have b0 := box2_b hB (i := 0) rfl; have b1 := box2_b hB (i := 1) rfl; have b2 := box2_b hB (i := 2) rfl; have b3 := box2_b hB (i := 3) rfl; have b4 := box2_b hB (i := 4) rfl; have fa := box2_fa hB; have fb := box2_fb hB)
  have hR2 : kPr.R 60 w1 (w.heap.size + 2) (fun k => w.heap.size + 2 ≤ k) (.slice A1 x.pairs.length c1) x.pairs := Kd.R_mono (Kd.R_bound HR.out) (fun k hk => hk.2.1)
  refine bodyPost_ret (v := .agg #[.string x.key, .int .i64 x.seq, .bool x.gone, .string x.data, .slice A1 x.pairs.length c1]) (by simp [results, Try.results29, go_sem, b0, b1, b2, b3, b4]) rfl ?_
  refine ⟨_, rfl, ?_, ?_⟩
  · refine Kd.R_lower (Kd.R_mono (Kd.R_far (Kd.R_far (Kd.R_far (Kd.R_far (Kd.R_far (Kd.R_far hR2 ?_ _) ?_ _) ?_ _) ?_ _) ?_ _) ?_ _) (fun _ _ => trivial)) (by omega)
    all_goals (intro k hk; show k ≠ _; simp only; omega)
  · exact (((((((box2_below hB).setCell (by simp) _).setCell (by simp) _).setCell (by simp) _).setCell (by simp) _).setCell (by simp) _).setCell (by simp) _)
theorem kPr_R_empty (w : World) (e : TypeId) : kPr.R e (w.alloc (.cells #[] e)) w.heap.size (fun _ => True) (.slice (some ⟨w.heap.size, 0, none⟩) 0 0) [] :=
  ⟨fun _ _ => trivial, [], ⟨rfl, .inr ⟨w.heap.size, 0, #[], rfl, Nat.le_refl _, heap_alloc_new _ _, Nat.le_refl _, Nat.zero_le _, rfl, rfl⟩⟩, Reps.none _ _⟩
set_option maxRecDepth 100000 in
set_option maxHeartbeats 1000000 in
theorem clone_any (l : List Pr) (A : Option Addr) (c : Nat) (w : World) (hC : kPr.C w A l.length l) (hl : l.length ≤ c) (hcap : l.length * 32 ≤ 140737488355328) :
    Calls Try.prog 41 #[.slice A l.length c] w fun e w' => ∃ v, e = .returned v ∧ kPr.R 60 w' w.heap.size (fun _ => True) v l ∧ Below w.heap.size w w' := by
  have hq := fun W => Lib.run_eql_slice_nil (P := Try.prog) W 46 60 A l.length c 0 0 Try.underlying46
  cases A with
  | none =>
    have h0 : l = [] := by
      cases l with
      | nil => rfl
      | cons a r =>
        obtain ⟨ad, e, _⟩ := hC.2.2 (by simp)
        cases e
    subst h0
    clear hC
    simp only [List.length_nil, Option.isNone_none] at hq
    go_enter Try.func41, Try.ntmps41
    go_wp2
    go_ret
    exact ⟨_, rfl, Kd.R_nil _ _ _ _ _, Below.refl _ _⟩
  | some ad =>
    have HC := Lib.hid (Kd.C_below hC (below1 w (.cells #[] 60)))
    clear hC
    go_enter Try.func41, Try.ntmps41
    go_wp2_with (at_builtin; refine Kd.R_append_rows kPr (Rr := kPr.K _) (w0 := w) w.heap.size rfl _ _ 46 60 _ 32 rfl Try.underlying46 pr_info rfl (by decide) (by decide) (.slice (some ⟨w.heap.size, 0, none⟩) 0 0) [] l (some ad) l.length c (fun _ => True) (fun _ => False) rfl rfl (kPr_R_empty w 60) HC.out (fun _ _ h => kPr_KM _ _ _ _ _ h) (fun _ h => h.elim) (fun _ _ => trivial) (below1 _ _) (by simp [go_sem]) (by simpa using hcap) ?_; intro v1 w1 hR hB hg hat; rw [List.nil_append] at hR; have HR := Lib.hid hR; clear hR hg hat)
    go_ret
    exact ⟨_, rfl, HR.out, hB⟩
end Go.Proofs.Ytbhdehkdnenigaa

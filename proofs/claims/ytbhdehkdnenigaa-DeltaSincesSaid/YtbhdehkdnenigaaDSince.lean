/- Walks: the document's Since, and what is below a number. -/
import Derived.Test.YtbhdehkdnenigaaDCopy
import Derived.Deep.RegionLaw
set_option linter.unusedVariables false
set_option linter.unusedSimpArgs false
namespace Go.Proofs.Ytbhdehkdnenigaa
open Go.RowKit Go.Proofs.YtbhdehkdnenigaaW.PrintWords
attribute [local go_sem] Vn.val Vn.with

def since (l : List Vn) (m : Int) : List Vn := l.filter fun x => decide (m ≤ x.seq)
theorem since_yes {l : List Vn} {m : Int} {k : Nat} (h : k < l.length) (hm : m ≤ (rdV l k).seq) : since (l.take (k + 1)) m = since (l.take k) m ++ [rdV l k] := by
  rw [List.take_succ_eq_append_getElem h, rdV_at h]
  simp [since, hm]
theorem since_no {l : List Vn} {m : Int} {k : Nat} (h : k < l.length) (hm : ¬ m ≤ (rdV l k).seq) : since (l.take (k + 1)) m = since (l.take k) m := by
  rw [List.take_succ_eq_append_getElem h, rdV_at h]
  simp [since, hm]
theorem since_len (l : List Vn) (m : Int) : (since l m).length ≤ l.length := List.length_filter_le _ _
theorem since_take_len (l : List Vn) (m : Int) (k : Nat) : (since (l.take k) m).length ≤ k := Nat.le_trans (since_len _ _) (by rw [List.length_take]; omega)
theorem frozen_below {w W : World} {B : Nat} (hB : Below B w W) {a : Addr} (hb : a.block < B) (h : w.frozen? a = false) : W.frozen? a = false := by rw [hB.frozen hb, h]
theorem cell_below {w W : World} {B : Nat} (hB : Below B w W) {a : Addr} {v : Value} (hb : a.block < B) (h : w.cell? a = some v) : W.cell? a = some v := by rw [hB.cell hb, h]
set_option maxRecDepth 100000 in
set_option maxHeartbeats 1000000 in
theorem since19_any (l : List Vn) (nx m : Int) (A : Option Addr) (c : Nat) (w : World) (hC : kVn.C w A l.length l) (hl : l.length ≤ c) (HR : Room l) (hm1 : 1 ≤ m) (hm2 : m ≤ nx) :
    Calls Try.prog 11 #[.agg #[.int .i64 nx, .slice A l.length c], .int .i64 m] w fun e w' => ∃ v, e = .returned (.tuple #[.agg #[.int .i64 m, .int .i64 nx, v], .int .i64 0]) ∧ kVn.R 48 w' w.heap.size (fun _ => True) v (since l m) ∧ Below w.heap.size w w' := by
  have HC := Lib.hid hC
  have hml := hC.2.1
  clear hC
  have hlen := HR.len
  have t1 : decide (m < 1) = false := by simp; omega
  have t2 : decide (nx < m) = false := by simp; omega
  go_enter Try.func11, Try.ntmps11
  go_wp2
  go_loopw [7] (fun i wr => ∃ (k : Nat) (A1 : Option Addr) (c1 : Nat), k ≤ l.length ∧ i = .int .i64 k ∧ wr.cell? ⟨w.heap.size + 1 + 1, 0, none⟩ = some (.int .i64 m) ∧ wr.cell? ⟨w.heap.size + 1 + 1, 1, none⟩ = some (.int .i64 nx) ∧ wr.cell? ⟨w.heap.size + 1 + 1, 2, none⟩ = some (.slice A1 (since (l.take k) m).length c1) ∧ (∀ j, wr.frozen? ⟨w.heap.size + 1 + 1, j, none⟩ = false) ∧ w.heap.size + 3 ≤ wr.heap.size ∧ Hid (kVn.R 48 wr (w.heap.size + 3) (fun _ => True) (.slice A1 (since (l.take k) m).length c1) (since (l.take k) m)) ∧ Below (w.heap.size + 2) ((w.alloc (.cells #[.int .i64 nx, .slice A l.length c] 24)).alloc (.cells #[.int .i64 0, .int .i64 0, .slice none 0 0] 27)) wr) (fun i _ => l.length - (intOf i).toNat)
  case atStart => exact ⟨0, none, 0, Nat.zero_le _, rfl, by simp [go_sem], by simp [go_sem], by simp [go_sem, since], fun j => by simp [go_sem], by simp [go_sem], Kd.R_nil _ _ _ _ _, (Below.refl _ _).alloc (by simp [go_sem]) _⟩
  case round =>
    obtain ⟨k, A1, c1, hk, rfl, d0, d1, d2, fd, hs3, HL, hbw⟩ := hrel
    have m1 := box2_a hbw (i := 1) rfl
    have HCw := Kd.C_below HC.out (box2_below hbw)
    have htl := since_take_len l m k
    by_cases hlt : k < l.length
    · obtain ⟨ad, A4, c4, rfl, h1, h2, h3, h4, h5, h6, h7⟩ := kVn_rd HCw k hlt
      have hp32 := HR.pairs _ (rdV_mem hlt)
      by_cases hq : m ≤ (rdV l k).seq
      · have hnext := since_yes hlt hq
        generalize rdV l k = x at *
        have b3 : decide (m ≤ x.seq) = true := decide_eq_true hq
        have HS := fun w' h => Lib.hid (own_any x A4 c4 w' (Kd.C_below h7 h) h6 (by omega))
        have HN := Lib.hid hnext
        clear HCw h7 hnext hq
        go_wp2
        go_region_law (first | (refine Kd.R_append_step kVn (w.heap.size + 3) (by simp [Region.wanted]) (.tmp 39) (.tmp 46) 22 48 _ 72 rfl Try.underlying22 vn_info rfl (by decide) (by decide) (.slice A1 (since (l.take k) m).length c1) (since (l.take k) m) x _ (fun _ => True) (fun k => wr.heap.size ≤ k) (by simp [Act.eval, Act.put]) (by simp [Act.eval, Act.put]) (elem_M HV.out hs3) (new_ne HL.out) (fun _ _ => trivial) (Kd.R_below HL.out hb3) (Below.refl _ _) (Nat.le_trans hs3 hb3.size) (by omega) ?_; intro v1 w1 hR hB hg hat; rw [← HN.out] at hR; obtain ⟨A5, c5, rfl⟩ := Kd.R_slice hR; have HL1 := Lib.hid hR; have f0 := cell_below hB (show w.heap.size + 1 + 1 < w.heap.size + 3 by omega) (pw_cell_below hb3 d0); have f1 := cell_below hB (show w.heap.size + 1 + 1 < w.heap.size + 3 by omega) (pw_cell_below hb3 d1); have f2 := cell_below hB (show w.heap.size + 1 + 1 < w.heap.size + 3 by omega) (pw_cell_below hb3 d2); have ff : ∀ j, w1.frozen? ⟨w.heap.size + 1 + 1, j, none⟩ = false := fun j => frozen_below hB (show w.heap.size + 1 + 1 < w.heap.size + 3 by omega) (frozen_below hb3 (show w.heap.size + 1 + 1 < wr.heap.size by omega) (fd j)); clear hR hg hat) | (go_simp; go_at_call 29; refine (HS _ (below_drewN (Below.refl _ _) 1)).out.mono ?_; rintro e w' ⟨v, rfl, hv, hb2⟩; have HV := Lib.hid hv; clear hv; have hb3 : Below wr.heap.size wr w' := (below_drewN (Below.refl _ _) 1).trans hb2; have e2 := pw_cell_below hb3 d2; have e3 := fun o => pw_cell_below (below1 w' o) e2))
        all_goals go_wp2
        all_goals go_roundw
        all_goals first
          | (case measure => simp [intOf]; omega)
          | skip
        all_goals
          have hz : w.heap.size + 3 ≤ w1.heap.size := Nat.le_trans hs3 (Nat.le_trans hb3.size hB.size)
          refine ⟨k + 1, A5, c5, by omega, by go_num, by simp [go_sem, f0], by simp [go_sem, f1], by simp [go_sem, f2], fun j => by simp [go_sem, ff], by simpa [go_sem] using hz, ?_, ((hbw.trans (hb3.mono (by omega))).trans (hB.mono (by omega))).setCell (by simp) _⟩
          exact Kd.R_mono (Kd.R_far (p := ⟨w.heap.size + 1 + 1, 2, none⟩) (ok := fun k => w.heap.size + 3 ≤ k) (Kd.R_mono (Kd.R_bound HL1.out) (fun k hk => hk.2.1)) (by intro k hk; show k ≠ w.heap.size + 1 + 1; omega) _) (fun _ _ => trivial)
      · have hnext := since_no hlt hq
        generalize rdV l k = x at *
        have b3 : decide (m ≤ x.seq) = false := decide_eq_false hq
        have HN := Lib.hid hnext
        clear HCw h7 hnext hq
        go_wp2
        go_roundw
        case rel => exact ⟨k + 1, A1, c1, by omega, by go_num, d0, d1, by rw [HN.out]; exact d2, fd, hs3, by rw [HN.out]; exact HL, hbw⟩
        case measure => simp [intOf]; omega
    · obtain rfl : k = l.length := by omega
      have hL := HL.out
      rw [List.take_length] at hL d2
      have HL2 := Lib.hid hL
      have b0 := box2_b hbw (i := 0) rfl
      have b1 := box2_b hbw (i := 1) rfl
      have b2 := box2_b hbw (i := 2) rfl
      have fb := box2_fb hbw
      clear HCw hL HL
      go_wp2
      have hR2 : kVn.R 48 wr (w.heap.size + 3) (fun k => w.heap.size + 3 ≤ k) (.slice A1 (since l m).length c1) (since l m) := Kd.R_mono (Kd.R_bound HL2.out) (fun k hk => hk.2.1)
      refine bodyPost_ret (v := .tuple #[.agg #[.int .i64 m, .int .i64 nx, .slice A1 (since l m).length c1], .int .i64 0]) (by simp [results, Try.results11, go_sem, b0, b1, b2]) rfl ?_
      refine ⟨_, rfl, ?_, ?_⟩
      · refine Kd.R_lower (Kd.R_mono (Kd.R_far (Kd.R_far (Kd.R_far hR2 ?_ _) ?_ _) ?_ _) (fun _ _ => trivial)) (by omega)
        all_goals (intro k hk; show k ≠ _; simp only; omega)
      · exact ((((box2_below hbw).setCell (by simp) _).setCell (by simp) _).setCell (by simp) _)
end Go.Proofs.Ytbhdehkdnenigaa

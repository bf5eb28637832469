/- Walks: delta.added, delta.Since. -/
import Derived.Test.YtbhdehkdnenigaaDSince
set_option linter.unusedVariables false
set_option linter.unusedSimpArgs false
namespace Go.Proofs.Ytbhdehkdnenigaa
open Go.RowKit Go.Proofs.YtbhdehkdnenigaaW.PrintWords
attribute [local go_sem] Vn.val Vn.with

theorem alloc_size (w : World) (o : Obj) : (w.alloc o).heap.size = w.heap.size + 1 := by simp [go_sem]
/-- the box of a loop's variable is written: what was there before is as it was -/
theorem box_set {w wr : World} {o : Obj} (hb : Below (w.alloc o).heap.size (w.alloc o) wr) {i : Nat} (u : Value) : Below w.heap.size w (wr.setCell ⟨w.heap.size, i, none⟩ u) := (box_below hb).setCell (Nat.le_refl _) u
/-- a version whose pairs were made behind its box, its box written, as an element to be appended -/
theorem elem_set {W' : World} {base n i : Nat} {x : Vn} {v : Value} {N : Nat} (h : kPr.R 60 W' N (fun _ => True) v x.pairs) (hN : N = n + 1) (hb : base ≤ n) (u : Value) :
    kVn.M (W'.setCell ⟨n, i, none⟩ u) base (fun k => n + 1 ≤ k) x [.string x.key, .int .i64 x.seq, .bool x.gone, .string x.data, v] :=
  kVn_mkM _ _ _ x (Kd.R_lower (Kd.R_far (p := ⟨n, i, none⟩) (Kd.R_mono (Kd.R_bound h) (fun k hk => by have := hk.2.1; omega)) (fun k hk => by show k ≠ n; omega) u) (by omega))
set_option maxRecDepth 100000 in
set_option maxHeartbeats 1000000 in
theorem added_any (l : List Vn) (m : Int) (A : Option Addr) (c : Nat) (w : World) (hC : kVn.C w A l.length l) (hl : l.length ≤ c) (HR : Room l) :
    Calls Try.prog 28 #[.slice none 0 0, .slice A l.length c, .int .i64 m] w fun e w' => ∃ v, e = .returned v ∧ kVn.R 48 w' w.heap.size (fun _ => True) v (since l m) ∧ Below w.heap.size w w' := by
  have HC := Lib.hid hC
  have hml := hC.2.1
  clear hC
  have hlen := HR.len
  go_enter Try.func28, Try.ntmps28
  go_wp2
  go_loopw [0, 11] (fun lv i wr => ∃ k : Nat, k ≤ l.length ∧ i = .int .i64 k ∧ Hid (kVn.R 48 wr w.heap.size (fun _ => True) lv (since (l.take k) m)) ∧ Below w.heap.size w wr) (fun _ i _ => l.length - (intOf i).toNat)
  case atStart => exact ⟨0, Nat.zero_le _, rfl, Kd.R_nil _ _ _ _ _, Below.refl _ _⟩
  case round =>
    obtain ⟨k, hk, rfl, HL, hbw⟩ := hrel
    have HCw := Kd.C_below HC.out hbw
    have htl := since_take_len l m k
    by_cases hlt : k < l.length
    · obtain ⟨ad, A4, c4, rfl, h1, h2, h3, h4, h5, h6, h7⟩ := kVn_rd HCw k hlt
      have hp32 := HR.pairs _ (rdV_mem hlt)
      by_cases hq : m ≤ (rdV l k).seq
      · have hnext := since_yes hlt hq
        generalize rdV l k = x at *
        have b3 : decide (m ≤ x.seq) = true := decide_eq_true hq
        have HS := fun w' h => Lib.hid (clone_any x.pairs A4 c4 w' (Kd.C_below h7 h) h6 (by omega))
        have HN := Lib.hid hnext
        have hl72 : ((since (l.take k) m).length + 1) * 72 ≤ 140737488355328 := by omega
        clear HCw h7 hnext hq
        go_wp2_with (first | (go_at_call 41; refine (HS _ (below1 _ _)).out.mono ?_; rintro e w' ⟨v, rfl, hv, hb2⟩; obtain ⟨A5, c5, rfl⟩ := Kd.R_slice hv; have HV := Lib.hid hv; clear hv; have x0 := box_cell hb2 (i := 0) rfl; have x1 := box_cell hb2 (i := 1) rfl; have x2 := box_cell hb2 (i := 2) rfl; have x3 := box_cell hb2 (i := 3) rfl; have x4 := box_cell hb2 (i := 4) rfl; have xf : ∀ j, w'.frozen? ⟨wr.heap.size, j, none⟩ = false := fun j => frozen_below hb2 (by simp [go_sem]) (by simp [go_sem])) | (at_builtin; refine Kd.R_append kVn w.heap.size (W := w'.setCell ⟨wr.heap.size, 4, none⟩ (.slice A5 x.pairs.length c5)) rfl (.tmp 23) (.tmp 25) 22 48 _ 72 rfl Try.underlying22 vn_info rfl (by decide) (by decide) _ (since (l.take k) m) x _ (fun _ => True) (fun k => wr.heap.size + 1 ≤ k) rfl ?hx (elem_set HV.out (alloc_size _ _) hbw.size _) (fun k hk => new_ne HL.out k (Nat.le_of_succ_le hk)) (fun _ _ => trivial) (Kd.R_below HL.out (box_set hb2 _)) (hbw.trans ((box_set hb2 _).mono hbw.size)) (Nat.le_trans hbw.size (box_set hb2 _).size) hl72 ?hn; (case hx => simp [Act.eval, go_sem]); intro v1 w1 hR hB hg hat; rw [← HN.out] at hR; have HL1 := Lib.hid hR; clear hR hg hat))
        go_roundw
        case rel => exact ⟨k + 1, by omega, by go_num, HL1.out, hB⟩
        case measure => simp [intOf]; omega
      · have hnext := since_no hlt hq
        generalize rdV l k = x at *
        have b3 : decide (m ≤ x.seq) = false := decide_eq_false hq
        have HN := Lib.hid hnext
        clear HCw h7 hnext hq
        go_wp2
        go_roundw
        case rel => exact ⟨k + 1, by omega, by go_num, by rw [HN.out]; exact Kd.R_below HL.out (below1 _ _), hbw.alloc hbw.size _⟩
        case measure => simp [intOf]; omega
    · obtain rfl : k = l.length := by omega
      have hL := HL.out
      rw [List.take_length] at hL
      have HL2 := Lib.hid hL
      clear HCw hL HL
      go_wp2
      go_ret
      exact ⟨_, rfl, HL2.out, hbw⟩
def noDelta : Value := .agg #[.int .i64 0, .int .i64 0, .slice none 0 0]
set_option maxRecDepth 100000 in
set_option maxHeartbeats 1000000 in
theorem since_any (l : List Vn) (nx m : Int) (A : Option Addr) (c : Nat) (w : World) (hC : kVn.C w A l.length l) (hl : l.length ≤ c) (HR : Room l) (hm1 : 1 ≤ m) (hm2 : m ≤ nx) :
    Calls Try.prog 9 #[.agg #[.int .i64 nx, .slice A l.length c], .int .i64 m] w fun e w' => ∃ v, e = .returned (.tuple #[.agg #[.int .i64 m, .int .i64 nx, v], .int .i64 0]) ∧ kVn.R 48 w' w.heap.size (fun _ => True) v (since l m) ∧ Below w.heap.size w w' := by
  have t1 : decide (m < 1) = false := by simp; omega
  have t2 : decide (nx < m) = false := by simp; omega
  have HA := fun w' h => Lib.hid (added_any l m A c w' (Kd.C_below hC h) hl HR)
  clear hC
  go_enter Try.func9, Try.ntmps9
  have hsz : w.heap.size + 2 ≤ ((w.alloc (.cells #[.int .i64 nx, .slice A l.length c] 24)).alloc (.cells #[.int .i64 0, .int .i64 0, .slice none 0 0] 27)).heap.size := by simp [go_sem]
  go_wp2
  go_region_with (go_at_call 28; refine (HA _ (below_drewN (below2 _ _ _) 1)).out.mono ?_; rintro e w' ⟨v, rfl, hv, hb2⟩; obtain ⟨A1, c1, rfl⟩ := Kd.R_slice hv; have HV := Lib.hid hv; clear hv; have hB : Below (w.heap.size + 2) ((w.alloc (.cells #[.int .i64 nx, .slice A l.length c] 24)).alloc (.cells #[.int .i64 0, .int .i64 0, .slice none 0 0] 27)) w' := (below_drewN (Below.refl _ _) 1).trans (hb2.mono hsz); have m0 := box2_a hB (i := 0) rfl; have m1 := box2_a hB (i := 1) rfl; have b0 := box2_b hB (i := 0) rfl; have b1 := box2_b hB (i := 1) rfl; have b2 := box2_b hB (i := 2) rfl; have fb := box2_fb hB)
  all_goals go_wp2
  all_goals
    have hR2 : kVn.R 48 w' (w.heap.size + 2) (fun k => w.heap.size + 2 ≤ k) (.slice A1 (since l m).length c1) (since l m) := Kd.R_lower (Kd.R_mono (Kd.R_bound HV.out) (fun k hk => Nat.le_trans hsz hk.2.1)) hsz
    refine bodyPost_ret (v := .tuple #[.agg #[.int .i64 m, .int .i64 nx, .slice A1 (since l m).length c1], .int .i64 0]) (by simp [results, Try.results9, go_sem, b0, b1, b2, Act.put]) rfl ?_
    refine ⟨_, rfl, ?_, ?_⟩
    · refine Kd.R_lower (Kd.R_mono (Kd.R_far (Kd.R_far (Kd.R_far hR2 ?_ _) ?_ _) ?_ _) (fun _ _ => trivial)) (by omega)
      all_goals (intro k hk; show k ≠ _; simp only; omega)
    · exact ((((box2_below hB).setCell (by simp) _).setCell (by simp) _).setCell (by simp) _)
theorem since_bad (l : List Vn) (nx m : Int) (A : Option Addr) (c : Nat) (w : World) (h : m < 1 ∨ nx < m) :
    Calls Try.prog 9 #[.agg #[.int .i64 nx, .slice A l.length c], .int .i64 m] w fun e w' => e = .returned (.tuple #[noDelta, .int .i64 1]) ∧ Below w.heap.size w w' := by
  by_cases h1 : m < 1
  · have t1 : decide (m < 1) = true := by simp; omega
    go_enter Try.func9, Try.ntmps9
    go_wp2
    refine bodyPost_ret (v := .tuple #[noDelta, .int .i64 1]) (by simp [results, Try.results9, go_sem, noDelta]) rfl ?_
    exact ⟨rfl, below2 _ _ _⟩
  · have t1 : decide (m < 1) = false := by simp; omega
    have t2 : decide (nx < m) = true := by simp; omega
    go_enter Try.func9, Try.ntmps9
    go_wp2
    refine bodyPost_ret (v := .tuple #[noDelta, .int .i64 1]) (by simp [results, Try.results9, go_sem, noDelta]) rfl ?_
    exact ⟨rfl, below2 _ _ _⟩
end Go.Proofs.Ytbhdehkdnenigaa

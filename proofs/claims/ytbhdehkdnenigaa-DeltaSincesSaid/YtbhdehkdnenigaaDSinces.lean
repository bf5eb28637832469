/- Walk: the law DeltaSinces answers true. -/
import Derived.Test.YtbhdehkdnenigaaDFirst2
set_option linter.unusedVariables false
set_option linter.unusedSimpArgs false
namespace Go.Proofs.Ytbhdehkdnenigaa
open Go.RowKit Go.Proofs.YtbhdehkdnenigaaW.PrintWords
theorem nil_C (w : World) : kVn.C w none 0 [] := ⟨rfl, by decide, fun h => absurd h (by decide)⟩
/-- both answers, in one form -/
def ansOk (l : List Vn) (nx m : Int) : Prop := 1 ≤ m ∧ m ≤ nx
theorem since_both (l : List Vn) (nx m : Int) (A : Option Addr) (c : Nat) (w : World) (hC : kVn.C w A l.length l) (hl : l.length ≤ c) (HR : Room l) :
    ∃ (s x : Int) (k : List Vn) (e0 : Int), (∀ A c w, kVn.C w A l.length l → l.length ≤ c → Calls Try.prog 9 #[.agg #[.int .i64 nx, .slice A l.length c], .int .i64 m] w fun e w' => ∃ B d, e = .returned (.tuple #[.agg #[.int .i64 s, .int .i64 x, .slice B k.length d], .int .i64 e0]) ∧ k.length ≤ d ∧ kVn.C w' B k.length k ∧ Below w.heap.size w w') ∧
      (∀ A c w, kVn.C w A l.length l → l.length ≤ c → Calls Try.prog 11 #[.agg #[.int .i64 nx, .slice A l.length c], .int .i64 m] w fun e w' => ∃ B d, e = .returned (.tuple #[.agg #[.int .i64 s, .int .i64 x, .slice B k.length d], .int .i64 e0]) ∧ k.length ≤ d ∧ kVn.C w' B k.length k ∧ Below w.heap.size w w') := by
  by_cases h : 1 ≤ m ∧ m ≤ nx
  · refine ⟨m, nx, since l m, 0, fun A c w hC hl => ?_, fun A c w hC hl => ?_⟩
    · refine (since_any l nx m A c w hC hl HR h.1 h.2).mono ?_
      rintro e w' ⟨v, rfl, hv, hb⟩
      obtain ⟨B, d, rfl, hd, hD⟩ := Kd.R_reads hv
      exact ⟨B, d, rfl, hd, hD, hb⟩
    · refine (since19_any l nx m A c w hC hl HR h.1 h.2).mono ?_
      rintro e w' ⟨v, rfl, hv, hb⟩
      obtain ⟨B, d, rfl, hd, hD⟩ := Kd.R_reads hv
      exact ⟨B, d, rfl, hd, hD, hb⟩
  · have h2 : m < 1 ∨ nx < m := by omega
    refine ⟨0, 0, [], 1, fun A c w hC hl => ?_, fun A c w hC hl => ?_⟩
    · refine (since_bad l nx m A c w h2).mono ?_
      rintro e w' ⟨rfl, hb⟩
      exact ⟨none, 0, rfl, Nat.le_refl _, nil_C _, hb⟩
    · refine (since19_bad l nx m A c w h2).mono ?_
      rintro e w' ⟨rfl, hb⟩
      exact ⟨none, 0, rfl, Nat.le_refl _, nil_C _, hb⟩
theorem same19_true (k : List Vn) (s x : Int) (A B : Option Addr) (c d : Nat) (w : World) (hC : kVn.C w A k.length k) (hc : k.length ≤ c) (hD : kVn.C w B k.length k) (hd : k.length ≤ d) :
    Calls Try.prog 13 #[.agg #[.int .i64 s, .int .i64 x, .slice A k.length c], .agg #[.int .i64 s, .int .i64 x, .slice B k.length d]] w fun e w' => e = .returned (.bool true) ∧ Below w.heap.size w w' := by
  refine (same19_any k k s x s x A B c d w hC hD hc hd).mono ?_
  rintro e w' ⟨rfl, hb⟩
  exact ⟨by simp [sVns], hb⟩
theorem copy_C (l : List Vn) (nx : Int) (A : Option Addr) (c : Nat) (w : World) (hC : kVn.C w A l.length l) (hl : l.length ≤ c) (HR : Room l) :
    Calls Try.prog 10 #[.agg #[.int .i64 nx, .slice A l.length c]] w fun e w' => ∃ B d, e = .returned (.agg #[.int .i64 nx, .slice B l.length d]) ∧ l.length ≤ d ∧ kVn.C w' B l.length l ∧ Below w.heap.size w w' := by
  refine (copy_any l nx A c w hC hl HR).mono ?_
  rintro e w' ⟨v, rfl, hv, hb⟩
  obtain ⟨B, d, rfl, hd, hD⟩ := Kd.R_reads hv
  exact ⟨B, d, rfl, hd, hD, hb⟩
set_option maxRecDepth 100000 in
set_option maxHeartbeats 1000000 in
theorem sinces_any (l : List Vn) (nx m : Int) (A : Option Addr) (c : Nat) (w : World) (hC : kVn.C w A l.length l) (hl : l.length ≤ c) (HR : Room l) :
    Calls Try.prog 3 #[.agg #[.int .i64 nx, .slice A l.length c], .int .i64 m] w fun e w' => e = .returned (.bool true) ∧ Below w.heap.size w w' := by
  obtain ⟨s, x, k, e0, S1, S2⟩ := since_both l nx m A c w hC hl HR
  have HC := Lib.hid hC
  have L0 := Lib.hid (below1 w (.cells #[.int .i64 nx, .slice A l.length c] 24))
  have HRR := fun w' (h : Below w.heap.size w w') => Lib.hid (refRight_any l nx A c w' (Kd.C_below hC h) hl HR.fits)
  have HCP := fun w' (h : Below w.heap.size w w') => Lib.hid (copy_C l nx A c w' (Kd.C_below hC h) hl HR)
  have HS2 := fun w' (h : Below w.heap.size w w') => Lib.hid (S2 A c w' (Kd.C_below hC h) hl)
  have HS1 := Lib.hid S1
  clear hC S1 S2
  generalize rightV l nx = r at *
  have W0 : ∀ (w1 : World), Below (w.alloc (.cells #[.int .i64 nx, .slice A l.length c] 24)).heap.size (w.alloc (.cells #[.int .i64 nx, .slice A l.length c] 24)) w1 → w1.cell? ⟨w.heap.size, 0, none⟩ = some (.int .i64 nx) ∧ w1.cell? ⟨w.heap.size, 1, none⟩ = some (.slice A l.length c) := fun w1 h => ⟨box_cell h (i := 0) rfl, box_cell h (i := 1) rfl⟩
  cases r with
  | false =>
    go_enter Try.func3, Try.ntmps3
    go_wp2_with (first
      | (go_at_call 8; with_reducible refine (first_any _).mono ?_; rintro e w1 ⟨rfl, hb1⟩; have K1 := Lib.hid (bt L0.out hb1); obtain ⟨p0, p1⟩ := W0 _ hb1)
      | (go_at_call 10; with_reducible refine (HCP _ K1.out).out.mono ?_; rintro e w2 ⟨B2, d2, rfl, hd2, hD2, hb2⟩; have HD2 := Lib.hid hD2; clear hD2; have K2 := Lib.hid (bt K1.out hb2); have p20 := pw_cell_below hb2 p0; have p21 := pw_cell_below hb2 p1)
      | (go_at_call 9; with_reducible refine (HS1.out B2 d2 _ HD2.out hd2).mono ?_; rintro e w3 ⟨B3, d3, rfl, hd3, hD3, hb3⟩; have HD3 := Lib.hid hD3; clear hD3; have L3 : Below w3.heap.size w3 (w3.alloc (.cells #[.int .i64 s, .int .i64 x, .slice B3 k.length d3] 27)) := below1 _ _; have K3 := Lib.hid (bt (bt K2.out hb3) L3); have p30 := pw_cell_below L3 (pw_cell_below hb3 p20); have p31 := pw_cell_below L3 (pw_cell_below hb3 p21))
      | (go_at_call 11; with_reducible refine (HS2 _ K3.out).out.mono ?_; rintro e w4 ⟨B4, d4, rfl, hd4, hD4, hb4⟩; have HD4 := Lib.hid hD4; clear hD4; have L4 : Below w4.heap.size w4 (w4.alloc (.cells #[.int .i64 s, .int .i64 x, .slice B4 k.length d4] 27)) := below1 _ _; have K4 := Lib.hid (bt (bt K3.out hb4) L4); have p40 := pw_cell_below L4 (pw_cell_below hb4 p30); have p41 := pw_cell_below L4 (pw_cell_below hb4 p31))
      | (go_at_call 12; with_reducible refine (HRR _ K4.out).out.mono ?_; rintro e w5 ⟨rfl, hb5⟩; have K5 := Lib.hid (bt K4.out hb5)))
    go_ret
    exact ⟨rfl, K5.out⟩
  | true =>
    go_enter Try.func3, Try.ntmps3
    go_wp2_with (first
      | (go_at_call 8; with_reducible refine (first_any _).mono ?_; rintro e w1 ⟨rfl, hb1⟩; have K1 := Lib.hid (bt L0.out hb1); obtain ⟨p0, p1⟩ := W0 _ hb1)
      | (go_at_call 10; with_reducible refine (HCP _ K1.out).out.mono ?_; rintro e w2 ⟨B2, d2, rfl, hd2, hD2, hb2⟩; have HD2 := Lib.hid hD2; clear hD2; have K2 := Lib.hid (bt K1.out hb2); have p20 := pw_cell_below hb2 p0; have p21 := pw_cell_below hb2 p1)
      | (go_at_call 9; with_reducible refine (HS1.out B2 d2 _ HD2.out hd2).mono ?_; rintro e w3 ⟨B3, d3, rfl, hd3, hD3, hb3⟩; have HD3 := Lib.hid hD3; clear hD3; have L3 : Below w3.heap.size w3 (w3.alloc (.cells #[.int .i64 s, .int .i64 x, .slice B3 k.length d3] 27)) := below1 _ _; have K3 := Lib.hid (bt (bt K2.out hb3) L3); have p30 := pw_cell_below L3 (pw_cell_below hb3 p20); have p31 := pw_cell_below L3 (pw_cell_below hb3 p21))
      | (go_at_call 11; with_reducible refine (HS2 _ K3.out).out.mono ?_; rintro e w4 ⟨B4, d4, rfl, hd4, hD4, hb4⟩; have HD4 := Lib.hid hD4; clear hD4; have L4 : Below w4.heap.size w4 (w4.alloc (.cells #[.int .i64 s, .int .i64 x, .slice B4 k.length d4] 27)) := below1 _ _; have K4 := Lib.hid (bt (bt K3.out hb4) L4); have p40 := pw_cell_below L4 (pw_cell_below hb4 p30); have p41 := pw_cell_below L4 (pw_cell_below hb4 p31))
      | (go_at_call 12; with_reducible refine (HRR _ K4.out).out.mono ?_; rintro e w5 ⟨rfl, hb5⟩; have K5 := Lib.hid (bt K4.out hb5); have y0 : w5.cell? ⟨w3.heap.size, 0, none⟩ = some (.int .i64 s) := pw_cell_below hb5 (pw_cell_below L4 (box_cell hb4 (i := 0) rfl)); have y1 : w5.cell? ⟨w3.heap.size, 1, none⟩ = some (.int .i64 x) := pw_cell_below hb5 (pw_cell_below L4 (box_cell hb4 (i := 1) rfl)); have y2 : w5.cell? ⟨w3.heap.size, 2, none⟩ = some (.slice B3 k.length d3) := pw_cell_below hb5 (pw_cell_below L4 (box_cell hb4 (i := 2) rfl)); have z0 : w5.cell? ⟨w4.heap.size, 0, none⟩ = some (.int .i64 s) := box_cell hb5 (i := 0) rfl; have z1 : w5.cell? ⟨w4.heap.size, 1, none⟩ = some (.int .i64 x) := box_cell hb5 (i := 1) rfl; have z2 : w5.cell? ⟨w4.heap.size, 2, none⟩ = some (.slice B4 k.length d4) := box_cell hb5 (i := 2) rfl)
      | (go_at_call 13; refine (same19_true k s x B3 B4 d3 d4 _ (Kd.C_below HD3.out (bt (bt L3 (bt hb4 L4)) hb5)) hd3 (Kd.C_below HD4.out (bt L4 hb5)) hd4).mono ?_; rintro e w6 ⟨rfl, hb6⟩; have K6 := Lib.hid (bt K5.out hb6)))
    go_ret
    exact ⟨rfl, K6.out⟩
end Go.Proofs.Ytbhdehkdnenigaa

/- The law DeltaApart of this seat: coffer/cofferlaw19.DeltaApart returns true for every input, and its arguments read as they did.
Walk: the law DeltaApart answers true.
What a law's contract gives its row: true is told, and what came in reads as it did.
What comes in: a bucket's value, a delta, opened to rows of versions; what the row's weights say of them. -/
import Derived.Test.YtbhdehkdnenigaaProg
import Derived.WalkKit
import Derived.ProofKit
import Derived.OpenShut
import Derived.ShutString
import Derived.Deep.DeepHandedRow
import Derived.Lib.LaidTab
import Derived.Deep.Slices
import Derived.Deep.Fields
import Derived.ChangeSame
import Derived.SizedLaws
import Derived.Test.YtbhdehkdnenigaaRows
import Derived.Test.YtbhdehkdnenigaaQD4
set_option linter.unusedVariables false
set_option linter.unusedSimpArgs false
namespace Go.Proofs.Ytbhdehkdnenigaa
open Go.RowKit Go.Proofs.YtbhdehkdnenigaaW.PrintWords
set_option maxRecDepth 100000 in
set_option maxHeartbeats 16000000 in
theorem apart_any (l : List Vn) (nx m0 : Int) (A : Option Addr) (c : Nat) (w : World) (hC : kVn.C w A l.length l) (hl : l.length ≤ c) (HR : Room l) :
    Calls Try.prog 7 #[.agg #[.int .i64 nx, .slice A l.length c], .int .i64 m0] w fun e w' => e = .returned (.bool true) ∧ Below w.heap.size w w' := by
  have C_v : Hid (kVn.C w A l.length l ∧ l.length ≤ c) := Lib.hid ⟨hC, hl⟩
  have N_w0 := Lib.hid (below1 w (.cells #[.int .i64 nx, .slice A l.length c] 24))
  have B_v := Lib.hid (bxB_new w nx A l.length c)
  have HRR := fun w' (h : Below w.heap.size w w') => Lib.hid (refRight_any l nx A c w' (Kd.C_below hC h) hl HR.fits)
  have HRm := Lib.hid HR
  by_cases hr : rightV l nx = false
  · rw [hr] at HRR
    clear hC hl HR hr
    go_enter Try.func7, Try.ntmps7
    go_wp2_with (first
      | (go_at_call 8; with_reducible refine (first_any _).mono ?_; rintro e w1 ⟨rfl, hb⟩; have N_w1 := Lib.hid hb; clear hb; obtain ⟨V_v_0, V_v_1⟩ := (B_v.out.below N_w1.out).cells)
      | (go_at_call 12; with_reducible refine (HRR _ (bt N_w0.out N_w1.out)).out.mono ?_; rintro e w2 ⟨rfl, hb⟩; have N_w2 := Lib.hid hb; clear hb V_v_0 V_v_1))
    go_ret
    exact ⟨rfl, bt (bt N_w0.out N_w1.out) N_w2.out⟩
  · have hr : rightV l nx = true := by simpa using hr
    rw [hr] at HRR
    have hRt := (right_iff l nx).1 hr
    have HRt := Lib.hid hRt
    have hn1 := hRt.lo
    have hn2 := hRt.hi
    have hm12 := numE_in m0 nx hn1 hn2
    have HNm := fun W => Lib.hid (number_any m0 nx W hn1 hn2)
    generalize numE m0 nx = m at *
    have hm1 := hm12.1
    have hm2 := hm12.2
    have HRl := Lib.hid (hRt.lower hm1 hm2)
    have HRs := Lib.hid (hRt.since (m := m))
    clear hC hl HR hr hRt hm12 hn1 hn2
    go_enter Try.func7, Try.ntmps7
    go_wp2_with (first
      | (go_at_call 8; with_reducible refine (first_any _).mono ?_; rintro e w1 ⟨rfl, hb⟩; have N_w1 := Lib.hid hb; clear hb; obtain ⟨V_v_0, V_v_1⟩ := (B_v.out.below N_w1.out).cells)
      | (go_at_call 12; with_reducible refine ((HRR _ (bt N_w0.out N_w1.out)).out).mono ?_; clear V_v_0 V_v_1; rintro e w2 ⟨rfl, hb⟩; have N_w2 := Lib.hid hb; clear hb; obtain ⟨V_v_0, V_v_1⟩ := (B_v.out.below (bt N_w1.out N_w2.out)).cells)
      | (go_at_call 19; with_reducible refine (HNm _).out.mono ?_; rintro e w9 ⟨rfl, rfl⟩)
      | (go_at_call 23; with_reducible refine (full_w l nx nx A c _ (Kd.C_below C_v.out.1 (bt (bt N_w0.out N_w1.out) N_w2.out)) C_v.out.2 HRt.out).mono ?_; clear V_v_0 V_v_1; rintro e w3 ⟨Ao, co, rfl, ho, hb⟩; have N_w3 := Lib.hid hb; have O_own := Lib.hid ho; have C_own := Lib.hid (O_C ho); clear ho; have N_x3 : Hid (Below w3.heap.size w3 (World.alloc w3 (.cells #[.int .i64 nx, .slice Ao l.length co] 24))) := Lib.hid (below1 _ _); have B_own := Lib.hid (bxB_new w3 nx Ao l.length co); clear hb; obtain ⟨V_v_0, V_v_1⟩ := (B_v.out.below (bt (bt (bt N_w1.out N_w2.out) N_w3.out) N_x3.out)).cells)
      | (go_at_call 20; with_reducible refine (below_w l nx m A c _ (Kd.C_below C_v.out.1 (bt (bt (bt (bt N_w0.out N_w1.out) N_w2.out) N_w3.out) N_x3.out)) C_v.out.2 HRm.out).mono ?_; clear V_v_0 V_v_1; rintro e w5 ⟨A5, c5, rfl, ho, hb⟩; have N_w5 := Lib.hid hb; have C_l5 := Lib.hid (R_C ho); clear ho; clear hb)
      | (go_at_call 23; with_reducible refine (full_w (lower l m) m m A5 c5 _ (Kd.C_below C_l5.out.1 (Below.refl _ _)) C_l5.out.2 HRl.out).mono ?_; rintro e w6 ⟨Al, cl, rfl, ho, hb⟩; have N_w6 := Lib.hid hb; have O_low := Lib.hid ho; have C_low := Lib.hid (O_C ho); clear ho; have N_x6 : Hid (Below w6.heap.size w6 (World.alloc w6 (.cells #[.int .i64 m, .slice Al (lower l m).length cl] 24))) := Lib.hid (below1 _ _); have B_low := Lib.hid (bxB_new w6 m Al (lower l m).length cl); clear hb; obtain ⟨V_v_0, V_v_1⟩ := (B_v.out.below (bt (bt (bt (bt (bt (bt N_w1.out N_w2.out) N_w3.out) N_x3.out) N_w5.out) N_w6.out) N_x6.out)).cells)
      | (go_at_call 20; with_reducible refine (below_w l nx m A c _ (Kd.C_below C_v.out.1 (bt (bt (bt (bt (bt (bt (bt N_w0.out N_w1.out) N_w2.out) N_w3.out) N_x3.out) N_w5.out) N_w6.out) N_x6.out)) C_v.out.2 HRm.out).mono ?_; clear V_v_0 V_v_1; rintro e w8 ⟨Aw, cw, rfl, ho, hb⟩; have N_w8 := Lib.hid hb; have O_was := Lib.hid ho; have C_was := Lib.hid (R_C ho); clear ho; have N_x8 : Hid (Below w8.heap.size w8 (World.alloc w8 (.cells #[.int .i64 m, .slice Aw (lower l m).length cw] 24))) := Lib.hid (below1 _ _); have B_was := Lib.hid (bxB_new w8 m Aw (lower l m).length cw); clear hb; obtain ⟨V_own_0, V_own_1⟩ := (B_own.out.below (bt (bt (bt (bt N_w5.out N_w6.out) N_x6.out) N_w8.out) N_x8.out)).cells)
      | (go_at_call 9; with_reducible refine (since_w l nx m Ao co _ (Kd.C_below C_own.out.1 (bt (bt (bt (bt (bt N_x3.out N_w5.out) N_w6.out) N_x6.out) N_w8.out) N_x8.out)) C_own.out.2 HRm.out hm1 hm2).mono ?_; clear V_own_0 V_own_1; rintro e w10 ⟨Aa, ca, rfl, ho, hb⟩; have N_w10 := Lib.hid hb; have O_a := Lib.hid ho; have C_a := Lib.hid (S_C ho); clear ho; have N_x10 : Hid (Below w10.heap.size w10 (World.alloc w10 (.cells #[.int .i64 m, .int .i64 nx, .slice Aa (since l m).length ca] 27))) := Lib.hid (below1 _ _); have B_a := Lib.hid (bxD_new w10 m nx Aa (since l m).length ca); clear hb; obtain ⟨V_own_0, V_own_1⟩ := (B_own.out.below (bt (bt (bt (bt (bt (bt N_w5.out N_w6.out) N_x6.out) N_w8.out) N_x8.out) N_w10.out) N_x10.out)).cells)
      | (go_at_call 9; with_reducible refine (since_w l nx m Ao co _ (Kd.C_below C_own.out.1 (bt (bt (bt (bt (bt (bt (bt N_x3.out N_w5.out) N_w6.out) N_x6.out) N_w8.out) N_x8.out) N_w10.out) N_x10.out)) C_own.out.2 HRm.out hm1 hm2).mono ?_; clear V_own_0 V_own_1; rintro e w12 ⟨Ab, cb, rfl, ho, hb⟩; have N_w12 := Lib.hid hb; have O_b := Lib.hid ho; have C_b := Lib.hid (S_C ho); clear ho; have N_x12 : Hid (Below w12.heap.size w12 (World.alloc w12 (.cells #[.int .i64 m, .int .i64 nx, .slice Ab (since l m).length cb] 27))) := Lib.hid (below1 _ _); have B_b := Lib.hid (bxD_new w12 m nx Ab (since l m).length cb); clear hb; obtain ⟨V_b_0, V_b_1, V_b_2⟩ := B_b.out.cells)
      | (go_at_call 10; with_reducible refine (copy_w (since l m) nx Ab cb _ (Kd.C_below C_b.out.1 N_x12.out) C_b.out.2 (room_since HRm.out m)).mono ?_; clear V_b_0 V_b_1 V_b_2; rintro e w14 ⟨At, ct, rfl, ho, hb⟩; have N_w14 := Lib.hid hb; have O_t := Lib.hid ho; have C_t := Lib.hid (R_C ho); clear ho; have N_x14 : Hid (Below w14.heap.size w14 (World.alloc w14 (.cells #[.int .i64 nx, .slice At (since l m).length ct] 24))) := Lib.hid (below1 _ _); have B_t := Lib.hid (bxB_new w14 nx At (since l m).length ct); clear hb; obtain ⟨V_a_0, V_a_1, V_a_2⟩ := (B_a.out.below (bt (bt (bt N_w12.out N_x12.out) N_w14.out) N_x14.out)).cells; obtain ⟨V_t_0, V_t_1⟩ := B_t.out.cells)
      | (go_at_call 18; with_reducible refine (same_w (since l m) nx Aa At ca ct _ (Kd.C_below C_a.out.1 (bt (bt (bt (bt N_x10.out N_w12.out) N_x12.out) N_w14.out) N_x14.out)) (Kd.C_below C_t.out.1 N_x14.out) C_a.out.2 C_t.out.2).mono ?_; clear V_a_0 V_a_1 V_a_2 V_t_0 V_t_1; rintro e w16 ⟨rfl, hb⟩; have N_w16 := Lib.hid hb; clear hb; obtain ⟨V_own_0, V_own_1⟩ := (B_own.out.below (bt (bt (bt (bt (bt (bt (bt (bt (bt (bt (bt N_w5.out N_w6.out) N_x6.out) N_w8.out) N_x8.out) N_w10.out) N_x10.out) N_w12.out) N_x12.out) N_w14.out) N_x14.out) N_w16.out)).cells; obtain ⟨V_v_0, V_v_1⟩ := (B_v.out.below (bt (bt (bt (bt (bt (bt (bt (bt (bt (bt (bt (bt (bt (bt (bt N_w1.out N_w2.out) N_w3.out) N_x3.out) N_w5.out) N_w6.out) N_x6.out) N_w8.out) N_x8.out) N_w10.out) N_x10.out) N_w12.out) N_x12.out) N_w14.out) N_x14.out) N_w16.out)).cells)
      | (go_at_call 24; with_reducible refine (kept_w l nx nx HRt.out Ao co A c _ (O_own.out.below (bt (bt (bt (bt (bt (bt (bt (bt (bt (bt (bt (bt N_x3.out N_w5.out) N_w6.out) N_x6.out) N_w8.out) N_x8.out) N_w10.out) N_x10.out) N_w12.out) N_x12.out) N_w14.out) N_x14.out) N_w16.out)) (Kd.C_below C_v.out.1 (bt (bt (bt (bt (bt (bt (bt (bt (bt (bt (bt (bt (bt (bt (bt (bt N_w0.out N_w1.out) N_w2.out) N_w3.out) N_x3.out) N_w5.out) N_w6.out) N_x6.out) N_w8.out) N_x8.out) N_w10.out) N_x10.out) N_w12.out) N_x12.out) N_w14.out) N_x14.out) N_w16.out)) C_v.out.2).mono ?_; clear V_own_0 V_own_1 V_v_0 V_v_1; rintro e w17 ⟨rfl, hb⟩; have N_w17 := Lib.hid hb; clear hb; obtain ⟨V_low_0, V_low_1⟩ := (B_low.out.below (bt (bt (bt (bt (bt (bt (bt (bt (bt N_w8.out N_x8.out) N_w10.out) N_x10.out) N_w12.out) N_x12.out) N_w14.out) N_x14.out) N_w16.out) N_w17.out)).cells; obtain ⟨V_b_0, V_b_1, V_b_2⟩ := (B_b.out.below (bt (bt (bt N_w14.out N_x14.out) N_w16.out) N_w17.out)).cells)
      | (go_at_call 16; with_reducible refine (apply_w l nx m Al Ab cl cb _ HRt.out HRm.out hm1 hm2 (Kd.C_below C_low.out.1 (bt (bt (bt (bt (bt (bt (bt (bt (bt (bt N_x6.out N_w8.out) N_x8.out) N_w10.out) N_x10.out) N_w12.out) N_x12.out) N_w14.out) N_x14.out) N_w16.out) N_w17.out)) C_low.out.2 (Kd.C_below C_b.out.1 (bt (bt (bt (bt N_x12.out N_w14.out) N_x14.out) N_w16.out) N_w17.out)) C_b.out.2).mono ?_; clear V_low_0 V_low_1 V_b_0 V_b_1 V_b_2; rintro e w18 ⟨Ac, cc, rfl, ho, hb⟩; have N_w18 := Lib.hid hb; have O_c := Lib.hid ho; have C_c := Lib.hid (S_C ho); clear ho; have N_x18 : Hid (Below w18.heap.size w18 (World.alloc w18 (.cells #[.int .i64 nx, .slice Ac l.length cc] 24))) := Lib.hid (below1 _ _); have B_c := Lib.hid (bxB_new w18 nx Ac l.length cc); clear hb; obtain ⟨V_low_0, V_low_1⟩ := (B_low.out.below (bt (bt (bt (bt (bt (bt (bt (bt (bt (bt (bt N_w8.out N_x8.out) N_w10.out) N_x10.out) N_w12.out) N_x12.out) N_w14.out) N_x14.out) N_w16.out) N_w17.out) N_w18.out) N_x18.out)).cells; obtain ⟨V_b_0, V_b_1, V_b_2⟩ := (B_b.out.below (bt (bt (bt (bt (bt N_w14.out N_x14.out) N_w16.out) N_w17.out) N_w18.out) N_x18.out)).cells)
      | (go_at_call 16; with_reducible refine (apply_w l nx m Al Ab cl cb _ HRt.out HRm.out hm1 hm2 (Kd.C_below C_low.out.1 (bt (bt (bt (bt (bt (bt (bt (bt (bt (bt (bt (bt N_x6.out N_w8.out) N_x8.out) N_w10.out) N_x10.out) N_w12.out) N_x12.out) N_w14.out) N_x14.out) N_w16.out) N_w17.out) N_w18.out) N_x18.out)) C_low.out.2 (Kd.C_below C_b.out.1 (bt (bt (bt (bt (bt (bt N_x12.out N_w14.out) N_x14.out) N_w16.out) N_w17.out) N_w18.out) N_x18.out)) C_b.out.2).mono ?_; clear V_low_0 V_low_1 V_b_0 V_b_1 V_b_2; rintro e w20 ⟨Ad, cd, rfl, ho, hb⟩; have N_w20 := Lib.hid hb; have O_d := Lib.hid ho; have C_d := Lib.hid (S_C ho); clear ho; have N_x20 : Hid (Below w20.heap.size w20 (World.alloc w20 (.cells #[.int .i64 nx, .slice Ad l.length cd] 24))) := Lib.hid (below1 _ _); have B_d := Lib.hid (bxB_new w20 nx Ad l.length cd); clear hb; obtain ⟨V_c_0, V_c_1⟩ := (B_c.out.below (bt N_w20.out N_x20.out)).cells; obtain ⟨V_v_0, V_v_1⟩ := (B_v.out.below (bt (bt (bt (bt (bt (bt (bt (bt (bt (bt (bt (bt (bt (bt (bt (bt (bt (bt (bt (bt N_w1.out N_w2.out) N_w3.out) N_x3.out) N_w5.out) N_w6.out) N_x6.out) N_w8.out) N_x8.out) N_w10.out) N_x10.out) N_w12.out) N_x12.out) N_w14.out) N_x14.out) N_w16.out) N_w17.out) N_w18.out) N_x18.out) N_w20.out) N_x20.out)).cells))
    have HK0 : Nums.Ok ⟨nx, m, l, A, Ao, Al, Aw, Aa, Ab, At, Ac, Ad, c, co, cl, cw, ca, cb, ct, cc, cd, w.heap.size, w2.heap.size, w3.heap.size, w3.heap.size, w5.heap.size, w6.heap.size, w6.heap.size, (World.alloc w6 (.cells #[.int .i64 m, .slice Al (lower l m).length cl] 24)).heap.size, w8.heap.size, w8.heap.size, (World.alloc w8 (.cells #[.int .i64 m, .slice Aw (lower l m).length cw] 24)).heap.size, w10.heap.size, w10.heap.size, (World.alloc w10 (.cells #[.int .i64 m, .int .i64 nx, .slice Aa (since l m).length ca] 27)).heap.size, w12.heap.size, w12.heap.size, (World.alloc w12 (.cells #[.int .i64 m, .int .i64 nx, .slice Ab (since l m).length cb] 27)).heap.size, w14.heap.size, w14.heap.size, w17.heap.size, w18.heap.size, w18.heap.size, (World.alloc w18 (.cells #[.int .i64 nx, .slice Ac l.length cc] 24)).heap.size, w20.heap.size, w20.heap.size, (World.alloc w20 (.cells #[.int .i64 nx, .slice Ad l.length cd] 24)).heap.size⟩ := by
      have z_w0 : (World.alloc w (.cells #[.int .i64 nx, .slice A l.length c] 24)).heap.size = w.heap.size + 1 := by simp [go_sem]
      have z_w1 := N_w1.out.size
      have z_w2 := N_w2.out.size
      have z_w3 := N_w3.out.size
      have z_x3 : (World.alloc w3 (.cells #[.int .i64 nx, .slice Ao l.length co] 24)).heap.size = w3.heap.size + 1 := by simp [go_sem]
      have z_w5 := N_w5.out.size
      have z_w6 := N_w6.out.size
      have z_x6 : (World.alloc w6 (.cells #[.int .i64 m, .slice Al (lower l m).length cl] 24)).heap.size = w6.heap.size + 1 := by simp [go_sem]
      have z_w8 := N_w8.out.size
      have z_x8 : (World.alloc w8 (.cells #[.int .i64 m, .slice Aw (lower l m).length cw] 24)).heap.size = w8.heap.size + 1 := by simp [go_sem]
      have z_w10 := N_w10.out.size
      have z_x10 : (World.alloc w10 (.cells #[.int .i64 m, .int .i64 nx, .slice Aa (since l m).length ca] 27)).heap.size = w10.heap.size + 1 := by simp [go_sem]
      have z_w12 := N_w12.out.size
      have z_x12 : (World.alloc w12 (.cells #[.int .i64 m, .int .i64 nx, .slice Ab (since l m).length cb] 27)).heap.size = w12.heap.size + 1 := by simp [go_sem]
      have z_w14 := N_w14.out.size
      have z_x14 : (World.alloc w14 (.cells #[.int .i64 nx, .slice At (since l m).length ct] 24)).heap.size = w14.heap.size + 1 := by simp [go_sem]
      have z_w16 := N_w16.out.size
      have z_w17 := N_w17.out.size
      have z_w18 := N_w18.out.size
      have z_x18 : (World.alloc w18 (.cells #[.int .i64 nx, .slice Ac l.length cc] 24)).heap.size = w18.heap.size + 1 := by simp [go_sem]
      have z_w20 := N_w20.out.size
      have z_x20 : (World.alloc w20 (.cells #[.int .i64 nx, .slice Ad l.length cd] 24)).heap.size = w20.heap.size + 1 := by simp [go_sem]
      constructor <;> (dsimp only; omega)
    obtain ⟨N, hN⟩ : ∃ N : Nums, N = ⟨nx, m, l, A, Ao, Al, Aw, Aa, Ab, At, Ac, Ad, c, co, cl, cw, ca, cb, ct, cc, cd, w.heap.size, w2.heap.size, w3.heap.size, w3.heap.size, w5.heap.size, w6.heap.size, w6.heap.size, (World.alloc w6 (.cells #[.int .i64 m, .slice Al (lower l m).length cl] 24)).heap.size, w8.heap.size, w8.heap.size, (World.alloc w8 (.cells #[.int .i64 m, .slice Aw (lower l m).length cw] 24)).heap.size, w10.heap.size, w10.heap.size, (World.alloc w10 (.cells #[.int .i64 m, .int .i64 nx, .slice Aa (since l m).length ca] 27)).heap.size, w12.heap.size, w12.heap.size, (World.alloc w12 (.cells #[.int .i64 m, .int .i64 nx, .slice Ab (since l m).length cb] 27)).heap.size, w14.heap.size, w14.heap.size, w17.heap.size, w18.heap.size, w18.heap.size, (World.alloc w18 (.cells #[.int .i64 nx, .slice Ac l.length cc] 24)).heap.size, w20.heap.size, w20.heap.size, (World.alloc w20 (.cells #[.int .i64 nx, .slice Ad l.length cd] 24)).heap.size⟩ := ⟨_, rfl⟩
    have HK : Hid N.Ok := Lib.hid (by rw [hN]; exact HK0)
    have HS0 : Hid (Sit2 N w (World.alloc w20 (.cells #[.int .i64 nx, .slice Ad l.length cd] 24))) := Lib.hid (by
      subst hN
      exact ⟨⟨B_v.out.below (bt (bt (bt (bt (bt (bt (bt (bt (bt (bt (bt (bt (bt (bt (bt (bt (bt (bt (bt (bt N_w1.out N_w2.out) N_w3.out) N_x3.out) N_w5.out) N_w6.out) N_x6.out) N_w8.out) N_x8.out) N_w10.out) N_x10.out) N_w12.out) N_x12.out) N_w14.out) N_x14.out) N_w16.out) N_w17.out) N_w18.out) N_x18.out) N_w20.out) N_x20.out), B_own.out.below (bt (bt (bt (bt (bt (bt (bt (bt (bt (bt (bt (bt (bt (bt (bt (bt N_w5.out N_w6.out) N_x6.out) N_w8.out) N_x8.out) N_w10.out) N_x10.out) N_w12.out) N_x12.out) N_w14.out) N_x14.out) N_w16.out) N_w17.out) N_w18.out) N_x18.out) N_w20.out) N_x20.out), B_low.out.below (bt (bt (bt (bt (bt (bt (bt (bt (bt (bt (bt (bt (bt N_w8.out N_x8.out) N_w10.out) N_x10.out) N_w12.out) N_x12.out) N_w14.out) N_x14.out) N_w16.out) N_w17.out) N_w18.out) N_x18.out) N_w20.out) N_x20.out), B_was.out.below (bt (bt (bt (bt (bt (bt (bt (bt (bt (bt (bt N_w10.out N_x10.out) N_w12.out) N_x12.out) N_w14.out) N_x14.out) N_w16.out) N_w17.out) N_w18.out) N_x18.out) N_w20.out) N_x20.out), B_a.out.below (bt (bt (bt (bt (bt (bt (bt (bt (bt N_w12.out N_x12.out) N_w14.out) N_x14.out) N_w16.out) N_w17.out) N_w18.out) N_x18.out) N_w20.out) N_x20.out), B_b.out.below (bt (bt (bt (bt (bt (bt (bt N_w14.out N_x14.out) N_w16.out) N_w17.out) N_w18.out) N_x18.out) N_w20.out) N_x20.out), B_t.out.below (bt (bt (bt (bt (bt N_w16.out N_w17.out) N_w18.out) N_x18.out) N_w20.out) N_x20.out), B_c.out.below (bt N_w20.out N_x20.out), B_d.out, O_low.out.below (bt (bt (bt (bt (bt (bt (bt (bt (bt (bt (bt (bt (bt (bt N_x6.out N_w8.out) N_x8.out) N_w10.out) N_x10.out) N_w12.out) N_x12.out) N_w14.out) N_x14.out) N_w16.out) N_w17.out) N_w18.out) N_x18.out) N_w20.out) N_x20.out), Kd.R_below O_was.out (bt (bt (bt (bt (bt (bt (bt (bt (bt (bt (bt (bt N_x8.out N_w10.out) N_x10.out) N_w12.out) N_x12.out) N_w14.out) N_x14.out) N_w16.out) N_w17.out) N_w18.out) N_x18.out) N_w20.out) N_x20.out), Kd.R_below O_t.out (bt (bt (bt (bt (bt (bt N_x14.out N_w16.out) N_w17.out) N_w18.out) N_x18.out) N_w20.out) N_x20.out), Kd.S_R (Kd.S_below O_d.out N_x20.out), Kd.C_below C_v.out.1 (bt (bt (bt (bt (bt (bt (bt (bt (bt (bt (bt (bt (bt (bt (bt (bt (bt (bt (bt (bt (bt N_w0.out N_w1.out) N_w2.out) N_w3.out) N_x3.out) N_w5.out) N_w6.out) N_x6.out) N_w8.out) N_x8.out) N_w10.out) N_x10.out) N_w12.out) N_x12.out) N_w14.out) N_x14.out) N_w16.out) N_w17.out) N_w18.out) N_x18.out) N_w20.out) N_x20.out), (bt (bt (bt (bt (bt (bt (bt (bt (bt (bt (bt (bt (bt (bt (bt (bt (bt (bt (bt (bt (bt N_w0.out N_w1.out) N_w2.out) N_w3.out) N_x3.out) N_w5.out) N_w6.out) N_x6.out) N_w8.out) N_x8.out) N_w10.out) N_x10.out) N_w12.out) N_x12.out) N_w14.out) N_x14.out) N_w16.out) N_w17.out) N_w18.out) N_x18.out) N_w20.out) N_x20.out), C_v.out.1, Nat.le_refl _, Nat.le_refl _⟩, O_own.out.below (bt (bt (bt (bt (bt (bt (bt (bt (bt (bt (bt (bt (bt (bt (bt (bt (bt N_x3.out N_w5.out) N_w6.out) N_x6.out) N_w8.out) N_x8.out) N_w10.out) N_x10.out) N_w12.out) N_x12.out) N_w14.out) N_x14.out) N_w16.out) N_w17.out) N_w18.out) N_x18.out) N_w20.out) N_x20.out), Kd.S_below O_b.out (bt (bt (bt (bt (bt (bt (bt (bt N_x12.out N_w14.out) N_x14.out) N_w16.out) N_w17.out) N_w18.out) N_x18.out) N_w20.out) N_x20.out)⟩)
    have HA0 : Hid (Kd.S kVn 48 (World.alloc w20 (.cells #[.int .i64 nx, .slice Ad l.length cd] 24)) N.a1 (inR N.a1 N.a2) (.slice Aa (since l m).length ca) (since l m)) := Lib.hid (by subst hN; exact Kd.S_below O_a.out (bt (bt (bt (bt (bt (bt (bt (bt (bt (bt N_x10.out N_w12.out) N_x12.out) N_w14.out) N_x14.out) N_w16.out) N_w17.out) N_w18.out) N_x18.out) N_w20.out) N_x20.out))
    have HC0 : Hid (Kd.S kVn 48 (World.alloc w20 (.cells #[.int .i64 nx, .slice Ad l.length cd] 24)) N.c1 (inR N.c1 N.c2) (.slice Ac l.length cc) l) := Lib.hid (by subst hN; exact Kd.S_below O_c.out (bt (bt N_x18.out N_w20.out) N_x20.out))
    have HB_v : Hid (∀ wr, Sit N w wr → bxB wr w.heap.size nx A l.length c) := Lib.hid (by subst hN; exact fun wr h => h.bv)
    have HB_own : Hid (∀ wr, Sit N w wr → bxB wr w3.heap.size nx Ao l.length co) := Lib.hid (by subst hN; exact fun wr h => h.bo)
    have HB_low : Hid (∀ wr, Sit N w wr → bxB wr w6.heap.size m Al (lower l m).length cl) := Lib.hid (by subst hN; exact fun wr h => h.bl)
    have HB_was : Hid (∀ wr, Sit N w wr → bxB wr w8.heap.size m Aw (lower l m).length cw) := Lib.hid (by subst hN; exact fun wr h => h.bw)
    have HB_a : Hid (∀ wr, Sit N w wr → bxD wr w10.heap.size m nx Aa (since l m).length ca) := Lib.hid (by subst hN; exact fun wr h => h.ba)
    have HB_b : Hid (∀ wr, Sit N w wr → bxD wr w12.heap.size m nx Ab (since l m).length cb) := Lib.hid (by subst hN; exact fun wr h => h.bb)
    have HB_t : Hid (∀ wr, Sit N w wr → bxB wr w14.heap.size nx At (since l m).length ct) := Lib.hid (by subst hN; exact fun wr h => h.bt)
    have HB_c : Hid (∀ wr, Sit N w wr → bxB wr w18.heap.size nx Ac l.length cc) := Lib.hid (by subst hN; exact fun wr h => h.bc)
    have HB_d : Hid (∀ wr, Sit N w wr → bxB wr w20.heap.size nx Ad l.length cd) := Lib.hid (by subst hN; exact fun wr h => h.bd)
    have HC_v : Hid (∀ wr, Sit N w wr → kVn.C wr A l.length l ∧ l.length ≤ c) := Lib.hid (by subst hN; exact fun wr h => ⟨h.vC, C_v.out.2⟩)
    have HC_was : Hid (∀ wr, Sit N w wr → kVn.C wr Aw (lower l m).length (lower l m) ∧ (lower l m).length ≤ cw) := Lib.hid (by subst hN; exact fun wr h => R_C h.was)
    have HC_t : Hid (∀ wr, Sit N w wr → kVn.C wr At (since l m).length (since l m) ∧ (since l m).length ≤ ct) := Lib.hid (by subst hN; exact fun wr h => R_C h.want)
    have HC_d : Hid (∀ wr, Sit N w wr → kVn.C wr Ad l.length l ∧ l.length ≤ cd) := Lib.hid (by subst hN; exact fun wr h => R_C h.d)
    have HO_low : Hid (∀ wr, Sit N w wr → Owned wr w5.heap.size (inR w5.heap.size w6.heap.size) Al cl (lower l m)) := Lib.hid (by subst hN; exact fun wr h => h.low)
    have HO_own : Hid (∀ wr, Sit2 N w wr → Owned wr w2.heap.size (inR w2.heap.size w3.heap.size) Ao co l) := Lib.hid (by subst hN; exact fun wr h => h.o)
    have HO_b : Hid (∀ wr, Sit2 N w wr → Kd.S kVn 48 wr N.b1 (inR N.b1 N.b2) (.slice Ab (since l m).length cb) (since l m)) := Lib.hid (by subst hN; exact fun wr h => h.b)
    have HNo : Hid (N.o1 = w2.heap.size ∧ N.o2 = w3.heap.size) := Lib.hid (by subst hN; exact ⟨rfl, rfl⟩)
    clear hN HK0 B_v B_own B_low B_was B_a B_b B_t B_c B_d O_own O_low O_was O_a O_b O_t O_c O_d C_own C_l5 C_low C_was C_a C_b C_t C_c C_d
    clear N_x20 N_w20 N_x18 N_w18 N_w17 N_w16 N_x14 N_w14 N_x12 N_w12 N_x10 N_w10 N_x8 N_w8 N_x6 N_w6 N_w5 N_x3 N_w3 N_w2 N_w1 N_w0
    generalize (World.alloc w20 (.cells #[.int .i64 nx, .slice Ad l.length cd] 24)) = u0 at *
    go_wp2_with (first
      | (go_at_call 18; with_reducible refine (same_w l nx Ac A cc c _ (S_C HC0.out).1 (HC_v.out _ HS0.out.s).1 (S_C HC0.out).2 (HC_v.out _ HS0.out.s).2).mono ?_; clear V_c_0 V_c_1 V_v_0 V_v_1; rintro e u1 ⟨rfl, hb⟩; have HS1 := Lib.hid (HS0.out.below HK.out hb); have HA1 := Lib.hid (Kd.S_below HA0.out hb); have HC1 := Lib.hid (Kd.S_below HC0.out hb); clear hb; obtain ⟨V_d_0, V_d_1⟩ := (HB_d.out _ HS1.out.s).cells; obtain ⟨V_v_0, V_v_1⟩ := (HB_v.out _ HS1.out.s).cells)
      | (go_at_call 18; with_reducible refine (same_w l nx Ad A cd c _ (HC_d.out _ HS1.out.s).1 (HC_v.out _ HS1.out.s).1 (HC_d.out _ HS1.out.s).2 (HC_v.out _ HS1.out.s).2).mono ?_; clear V_d_0 V_d_1 V_v_0 V_v_1; rintro e u2 ⟨rfl, hb⟩; have HS2 := Lib.hid (HS1.out.below HK.out hb); have HA2 := Lib.hid (Kd.S_below HA1.out hb); have HC2 := Lib.hid (Kd.S_below HC1.out hb); clear hb; obtain ⟨V_low_0, V_low_1⟩ := (HB_low.out _ HS2.out.s).cells; obtain ⟨V_was_0, V_was_1⟩ := (HB_was.out _ HS2.out.s).cells)
      | (go_at_call 24; with_reducible refine (kept_w (lower l m) m m HRl.out Al cl Aw cw _ (HO_low.out _ HS2.out.s) (HC_was.out _ HS2.out.s).1 (HC_was.out _ HS2.out.s).2).mono ?_; clear V_low_0 V_low_1 V_was_0 V_was_1; rintro e u3 ⟨rfl, hb⟩; have HS3 := Lib.hid (HS2.out.below HK.out hb); have HA3 := Lib.hid (Kd.S_below HA2.out hb); have HC3 := Lib.hid (Kd.S_below HC2.out hb); clear hb; obtain ⟨V_b_0, V_b_1, V_b_2⟩ := (HB_b.out _ HS3.out.s).cells; obtain ⟨V_t_0, V_t_1⟩ := (HB_t.out _ HS3.out.s).cells)
      | (go_at_call 18; with_reducible refine (same_w (since l m) nx Ab At cb ct _ (S_C (HO_b.out _ HS3.out)).1 (HC_t.out _ HS3.out.s).1 (S_C (HO_b.out _ HS3.out)).2 (HC_t.out _ HS3.out.s).2).mono ?_; clear V_b_0 V_b_1 V_b_2 V_t_0 V_t_1; rintro e u4 ⟨rfl, hb⟩; have HS4 := Lib.hid (HS3.out.below HK.out hb); have HA4 := Lib.hid (Kd.S_below HA3.out hb); have HC4 := Lib.hid (Kd.S_below HC3.out hb); clear hb; obtain ⟨V_a_0, V_a_1, V_a_2⟩ := (HB_a.out _ HS4.out.s).cells)
      | (go_at_call 25; with_reducible refine (marked_w (since l m) nx nx HRs.out Aa ca N.a1 N.a2 _ HA4.out (HK.out.tops HS4.out.s).1.1 (HK.out.tops HS4.out.s).1.2).mono ?_; clear V_a_0 V_a_1 V_a_2; rintro e u5 ⟨rfl, ho, hb⟩; have HA5 := Lib.hid ho; have HC5 := Lib.hid (hb.S HC4.out HK.out.far.2.1); clear ho; have HS5 := Lib.hid (HS4.out.mA HK.out hb); clear hb; obtain ⟨V_c_0, V_c_1⟩ := (HB_c.out _ HS5.out.s).cells)
      | (go_at_call 25; with_reducible refine (marked_w l nx nx HRt.out Ac cc N.c1 N.c2 _ HC5.out (HK.out.tops HS5.out.s).2.2.1.1 (HK.out.tops HS5.out.s).2.2.1.2).mono ?_; clear V_c_0 V_c_1; rintro e u6 ⟨rfl, ho, hb⟩; have HC6 := Lib.hid ho; have HA6 := Lib.hid (hb.S HA5.out HK.out.far.1); clear ho; have HS6 := Lib.hid (HS5.out.mC HK.out hb); clear hb; obtain ⟨V_a_0, V_a_1, V_a_2⟩ := (HB_a.out _ HS6.out.s).cells)
      | (go_at_call 26; with_reducible refine (grown_w (since l m) nx nx HRs.out Aa ca N.a1 N.a2 _ HA6.out (HK.out.tops HS6.out.s).1.1 (HK.out.tops HS6.out.s).1.2).mono ?_; clear V_a_0 V_a_1 V_a_2; rintro e u7 ⟨rfl, hb⟩; have HC7 := Lib.hid (hb.S HC6.out HK.out.far.2.1); have HS7 := Lib.hid (HS6.out.mA HK.out hb); clear hb; obtain ⟨V_c_0, V_c_1⟩ := (HB_c.out _ HS7.out.s).cells)
      | (go_at_call 26; with_reducible refine (grown_w l nx nx HRt.out Ac cc N.c1 N.c2 _ HC7.out (HK.out.tops HS7.out.s).2.2.1.1 (HK.out.tops HS7.out.s).2.2.1.2).mono ?_; clear V_c_0 V_c_1; rintro e u8 ⟨rfl, hb⟩; have HS8 := Lib.hid (HS7.out.mC HK.out hb); clear hb; obtain ⟨V_b_0, V_b_1, V_b_2⟩ := (HB_b.out _ HS8.out.s).cells; obtain ⟨V_t_0, V_t_1⟩ := (HB_t.out _ HS8.out.s).cells)
      | (go_at_call 18; with_reducible refine (same_w (since l m) nx Ab At cb ct _ (S_C (HO_b.out _ HS8.out)).1 (HC_t.out _ HS8.out.s).1 (S_C (HO_b.out _ HS8.out)).2 (HC_t.out _ HS8.out.s).2).mono ?_; clear V_b_0 V_b_1 V_b_2 V_t_0 V_t_1; rintro e u9 ⟨rfl, hb⟩; have HS9 := Lib.hid (HS8.out.below HK.out hb); clear hb; obtain ⟨V_d_0, V_d_1⟩ := (HB_d.out _ HS9.out.s).cells; obtain ⟨V_v_0, V_v_1⟩ := (HB_v.out _ HS9.out.s).cells)
      | (go_at_call 18; with_reducible refine (same_w l nx Ad A cd c _ (HC_d.out _ HS9.out.s).1 (HC_v.out _ HS9.out.s).1 (HC_d.out _ HS9.out.s).2 (HC_v.out _ HS9.out.s).2).mono ?_; clear V_d_0 V_d_1 V_v_0 V_v_1; rintro e u10 ⟨rfl, hb⟩; have HS10 := Lib.hid (HS9.out.below HK.out hb); clear hb; obtain ⟨V_own_0, V_own_1⟩ := (HB_own.out _ HS10.out.s).cells; obtain ⟨V_v_0, V_v_1⟩ := (HB_v.out _ HS10.out.s).cells)
      | (go_at_call 24; with_reducible refine (kept_w l nx nx HRt.out Ao co A c _ (HO_own.out _ HS10.out) (HC_v.out _ HS10.out.s).1 (HC_v.out _ HS10.out.s).2).mono ?_; clear V_own_0 V_own_1 V_v_0 V_v_1; rintro e u11 ⟨rfl, hb⟩; have HS11 := Lib.hid (HS10.out.below HK.out hb); clear hb; obtain ⟨V_low_0, V_low_1⟩ := (HB_low.out _ HS11.out.s).cells; obtain ⟨V_was_0, V_was_1⟩ := (HB_was.out _ HS11.out.s).cells)
      | (go_at_call 24; with_reducible refine (kept_w (lower l m) m m HRl.out Al cl Aw cw _ (HO_low.out _ HS11.out.s) (HC_was.out _ HS11.out.s).1 (HC_was.out _ HS11.out.s).2).mono ?_; clear V_low_0 V_low_1 V_was_0 V_was_1; rintro e u12 ⟨rfl, hb⟩; have HS12 := Lib.hid (HS11.out.below HK.out hb); clear hb; obtain ⟨V_own_0, V_own_1⟩ := (HB_own.out _ HS12.out.s).cells)
      | (go_at_call 9; with_reducible refine (since_w l nx m Ao co _ (O_C (HO_own.out _ HS12.out)).1 (O_C (HO_own.out _ HS12.out)).2 HRm.out hm1 hm2).mono ?_; clear V_own_0 V_own_1; rintro e u13 ⟨A5, c5, rfl, _, hb⟩; have HS13 := Lib.hid (HS12.out.below HK.out hb); clear hb))
    obtain ⟨g, rfl, hco⟩ := (HO_own.out _ HS13.out).form
    have HCO := Lib.hid hco
    have HQ : Hid (Aq u13 u13 w2.heap.size w3.heap.size (.slice (some ⟨g, 0, none⟩) l.length co) (LstB l 0)) := Lib.hid ⟨by rw [lstb_0]; exact (HO_own.out _ HS13.out).plain, Wi.refl _ _ _⟩
    clear hco
    go_loopg [17] l.length (fun gk u17 wx => ∃ i : Nat, i + gk = l.length ∧ u17 = .int .i64 (i : Int) ∧ Hid (Aq u13 wx w2.heap.size w3.heap.size (.slice (some ⟨g, 0, none⟩) l.length co) (LstB l i)))
    case atStart => exact ⟨0, by omega, rfl, HQ⟩
    case round =>
      clear HQ
      obtain ⟨i, hig, rfl, HQ⟩ := hrel
      have hsx : Sit N w wr := HS13.out.s.mO HK.out (by rw [HNo.out.1, HNo.out.2]; exact HQ.out.wi)
      have HSx := Lib.hid hsx
      obtain ⟨V_own_0, V_own_1⟩ := (HB_own.out _ hsx).cells
      clear hsx
      cases gk with
      | succ gi =>
        have hi' : i < l.length := by omega
        have h256 := (rt_pairs HRt.out).1
        have b1 : (i : Int) < (l.length : Int) := by omega
        obtain ⟨v4, e0, e1, e3, e4, hfz, _, _⟩ := HQ.out.cells i hi'
        have hf3 := hfz 3
        clear hfz
        have HQ1 := Lib.hid (HQ.out.dat hi' hi')
        go_wp2
        generalize wr.setCell ⟨g, i * 5 + 3, none⟩ (.string ⟨#[]⟩) = w9 at HQ1 ⊢
        clear V_own_0 V_own_1 e0 e1 e3 e4 hf3
        obtain ⟨V_own_0, V_own_1⟩ := (HB_own.out _ (HS13.out.s.mO HK.out (by rw [HNo.out.1, HNo.out.2]; exact HQ1.out.wi) : Sit N w w9)).cells
        obtain ⟨v4, _, _, _, e4, hfz, ⟨_, _, r4, _⟩, _⟩ := HQ1.out.cells i hi'
        obtain ⟨A4, c4, rfl⟩ := Kd.R_slice r4
        have hf4 := hfz 4
        clear hfz r4
        generalize (((LstB l i).set i (noData l[i])).getD i zV).pairs.length = n4 at *
        have HN := Lib.hid ((HQ1.out.off hi' rfl hi' e4).step (below_drew1 (Below.refl _ _)) (Nat.le_trans (by have := (HK.out.tops HS13.out.s).2.2.2.1; rw [HNo.out.1] at this; exact this) (Nat.le_refl _)))
        go_region
        go_wp2
        go_roundg gi
        case measure => omega
        case rel => exact ⟨i + 1, by omega, by go_num, HN⟩
      | zero =>
        obtain rfl : i = l.length := by omega
        have hq := HQ.out.s
        rw [lstb_all] at hq
        have C_o := Lib.hid (S_C hq)
        have S_b : Hid (Kd.S kVn 48 wr N.b1 (inR N.b1 N.b2) (.slice Ab (since l m).length cb) (since l m)) := Lib.hid (Wi.S (by rw [HNo.out.1, HNo.out.2]; exact HQ.out.wi : Wi N.o1 N.o2 u13 wr) (HO_b.out _ HS13.out) HK.out.far.2.2.2.2.2.2)
        have HRb := Lib.hid (bare_room HRm.out)
        obtain ⟨v0, rfl⟩ : ∃ v0 : World, v0 = wr := ⟨_, rfl⟩
        clear hq HQ
        go_wp2_with (first
          | (go_at_call 9; with_reducible refine (since_n (bareL l) l.length (bareL_len l) nx m (some ⟨g, 0, none⟩) co _ (Kd.C_below C_o.out.1 (Below.refl _ _)) C_o.out.2 HRb.out hm1 hm2).mono ?_; clear V_own_0 V_own_1; rintro e v1 ⟨Ae, ce, rfl, ho, hb⟩; have N_v1 := Lib.hid hb; have R_e := Lib.hid (Kd.S_R ho); clear ho; have N_x1 : Hid (Below v1.heap.size v1 (World.alloc v1 (.cells #[.int .i64 m, .int .i64 nx, .slice Ae (since (bareL l) m).length ce] 27))) := Lib.hid (below1 _ _); have B_e := Lib.hid (bxD_new v1 m nx Ae (since (bareL l) m).length ce); clear hb; obtain ⟨V_own_0, V_own_1⟩ := (HB_own.out _ (HSx.out.below HK.out (bt N_v1.out N_x1.out))).cells)
          | (go_at_call 10; with_reducible refine (copy_n (bareL l) l.length (bareL_len l) nx (some ⟨g, 0, none⟩) co _ (Kd.C_below C_o.out.1 (bt N_v1.out N_x1.out)) C_o.out.2 HRb.out).mono ?_; clear V_own_0 V_own_1; rintro e v2 ⟨Ar, cr, rfl, ho, hb⟩; have N_v2 := Lib.hid hb; have C_r := Lib.hid (R_C' ho); clear ho; have N_x2 : Hid (Below v2.heap.size v2 (World.alloc v2 (.cells #[.int .i64 nx, .slice Ar l.length cr] 24))) := Lib.hid (below1 _ _); have B_r := Lib.hid (bxB_new v2 nx Ar l.length cr); clear hb; obtain ⟨V_r_0, V_r_1⟩ := B_r.out.cells)
          | (go_at_call 11; with_reducible refine (since19_n (bareL l) l.length (bareL_len l) nx m Ar cr _ (Kd.C_below C_r.out.1 N_x2.out) C_r.out.2 HRb.out hm1 hm2).mono ?_; clear V_r_0 V_r_1; rintro e v3 ⟨Ax, cx, rfl, ho, hb⟩; have N_v3 := Lib.hid hb; have R_x := Lib.hid ho; clear ho; have N_x3 : Hid (Below v3.heap.size v3 (World.alloc v3 (.cells #[.int .i64 m, .int .i64 nx, .slice Ax (since (bareL l) m).length cx] 27))) := Lib.hid (below1 _ _); have B_x := Lib.hid (bxD_new v3 m nx Ax (since (bareL l) m).length cx); clear hb; obtain ⟨V_b_0, V_b_1, V_b_2⟩ := (HB_b.out _ (HSx.out.below HK.out (bt (bt (bt (bt (bt N_v1.out N_x1.out) N_v2.out) N_x2.out) N_v3.out) N_x3.out))).cells)
          | (go_at_call 25; with_reducible refine (marked_w (since l m) nx nx HRs.out Ab cb N.b1 N.b2 _ (Kd.S_below S_b.out (bt (bt (bt (bt (bt N_v1.out N_x1.out) N_v2.out) N_x2.out) N_v3.out) N_x3.out)) (HK.out.tops (HSx.out.below HK.out (bt (bt (bt (bt (bt N_v1.out N_x1.out) N_v2.out) N_x2.out) N_v3.out) N_x3.out))).2.1.1 (HK.out.tops (HSx.out.below HK.out (bt (bt (bt (bt (bt N_v1.out N_x1.out) N_v2.out) N_x2.out) N_v3.out) N_x3.out))).2.1.2).mono ?_; clear V_b_0 V_b_1 V_b_2; rintro e v4 ⟨rfl, _, hw⟩; have HS4 := Lib.hid (Sit.mB (HSx.out.below HK.out (bt (bt (bt (bt (bt N_v1.out N_x1.out) N_v2.out) N_x2.out) N_v3.out) N_x3.out)) HK.out hw); have hb2 := (HK.out.tops HSx.out).2.1.2; have q1 := N_v1.out.size; have q2 := (bt (bt (bt N_v1.out N_x1.out) N_v2.out) N_x2.out).size; have q3 := N_v3.out.size; obtain ⟨V_e_0, V_e_1, V_e_2⟩ := ((B_e.out.below (bt (bt (bt N_v2.out N_x2.out) N_v3.out) N_x3.out)).wi hw (by omega)).cells; obtain ⟨V_x_0, V_x_1, V_x_2⟩ := (B_x.out.wi hw (by omega)).cells; have R_e4 := Lib.hid (R_C (R_wi (Kd.R_below R_e.out (bt (bt (bt (bt N_x1.out N_v2.out) N_x2.out) N_v3.out) N_x3.out)) hw (by omega))); have R_x4 := Lib.hid (R_C (R_wi (Kd.R_below R_x.out N_x3.out) hw (by omega))); clear hw hb2 q1 q2 q3)
          | (go_at_call 13; with_reducible refine (same19_true (since (bareL l) m) m nx Ae Ax ce cx _ R_e4.out.1 R_e4.out.2 R_x4.out.1 R_x4.out.2).mono ?_; clear V_e_0 V_e_1 V_e_2 V_x_0 V_x_1 V_x_2; rintro e v5 ⟨rfl, hb⟩; have HS5 := Lib.hid (HS4.out.below HK.out hb); clear hb; obtain ⟨V_d_0, V_d_1⟩ := (HB_d.out _ HS5.out).cells; obtain ⟨V_v_0, V_v_1⟩ := (HB_v.out _ HS5.out).cells)
          | (go_at_call 18; with_reducible refine (same_w l nx Ad A cd c _ (HC_d.out _ HS5.out).1 (HC_v.out _ HS5.out).1 (HC_d.out _ HS5.out).2 (HC_v.out _ HS5.out).2).mono ?_; clear V_d_0 V_d_1 V_v_0 V_v_1; rintro e v6 ⟨rfl, hb⟩; have HS6 := Lib.hid (HS5.out.below HK.out hb); clear hb; obtain ⟨V_low_0, V_low_1⟩ := (HB_low.out _ HS6.out).cells; obtain ⟨V_was_0, V_was_1⟩ := (HB_was.out _ HS6.out).cells)
          | (go_at_call 24; with_reducible refine (kept_w (lower l m) m m HRl.out Al cl Aw cw _ (HO_low.out _ HS6.out) (HC_was.out _ HS6.out).1 (HC_was.out _ HS6.out).2).mono ?_; clear V_low_0 V_low_1 V_was_0 V_was_1; rintro e v7 ⟨rfl, hb⟩; have HS7 := Lib.hid (HS6.out.below HK.out hb); clear hb))
        go_ret
        exact ⟨rfl, HS7.out.vb⟩
end Go.Proofs.Ytbhdehkdnenigaa

set_option linter.unusedVariables false
set_option linter.unusedSimpArgs false
namespace Go.Proofs.Ytbhdehkdnenigaa
open Go.ChangeShapes Go.WideShapes Go.ChangeAt Go.RowKit
theorem own : ownKnob Try.prog.godebug = none := by kernel_rfl
theorem laidOut : laidOutB Try.prog = true := by kernel_rfl
theorem trodAll_below {H : Type} {enc : TypeId × Value → H} {W W' : World} (hb : Below W.heap.size W W') : ∀ (ts : List TypeId) (vs : List Value) (ds : List (DataW H)) (ps : List MemPlace),
    (∀ t ∈ ts, Try.prog.readableRec t = true ∧ t < Try.prog.types.size) → DataW.TrodAll enc Try.prog W 0 (fun _ => true) true ts vs ds ps → (∀ x ∈ ps, x.block < W.heap.size) →
    DataW.TrodAll enc Try.prog W' 0 (fun b => decide (b < W.heap.size)) true ts vs ds ps
  | [], [], [], _, _, h, _ => h
  | t :: ts, v :: vs, d :: ds, ps, hr, ⟨p, q, h1, h2, e⟩, hlt => by
    subst e
    have ht := hr t List.mem_cons_self
    exact ⟨p, q, Below.trod laidOut ht.1 ht.2 h1 hb (fun x hx => hlt x (List.mem_append_left _ hx)), trodAll_below hb ts vs ds q (fun x hx => hr x (List.mem_cons_of_mem _ hx)) h2 (fun x hx => hlt x (List.mem_append_right _ hx)), rfl⟩
  | [], _ :: _, _, _, _, h, _ => h.elim
  | [], [], _ :: _, _, _, h, _ => h.elim
  | _ :: _, [], _, _, _, h, _ => h.elim
  | _ :: _, _ :: _, [], _, _, h, _ => h.elim
theorem law_post {H : Type} {enc : TypeId × Value → H} {s : ChangeSpec} {f : Func} {apart fresh handsOn : Bool} {W W' : World} {args : Array Value} {ds gs : List (DataW H)} {before : List MemPlace} {tb : TypeId}
    (hvars : s.vars = []) (hr : ∀ t ∈ f.params.toList, Try.prog.readableRec t = true ∧ t < Try.prog.types.size) (hres : f.resultTypes = #[tb]) (hbool : Try.prog.underlying tb = some .bool)
    (hfn : (s.fn H (ds ++ gs)).results = [.lit (.bool true)] ∧ (s.fn H (ds ++ gs)).args = ds ∧ (s.fn H (ds ++ gs)).vars = [])
    (hW : DataW.Whole enc Try.prog f.params.toList s.vars apart W args.toList ds gs before) (hb : Below W.heap.size W W') :
    s.post enc Try.prog f apart fresh handsOn false W args (.bool true) W' := by
  have hW' := hW
  have hlt := hW.lt
  obtain ⟨p, q, hA, hV, rfl, hfz, hnd⟩ := hW
  refine ⟨ds, gs, _, [], p, [], hW', ?_, ?_, ?_, hb.frame _, fun h => by cases h⟩
  · rw [hfn.1, hres]
    exact trodAll_mk1 (shut_bool hbool true)
  · rw [hfn.2.1]
    exact trodAll_below hb _ _ _ _ hr hA (fun x hx => hlt x (List.mem_append_left _ hx))
  · rw [hfn.2.2, hvars]
    rfl
end Go.Proofs.Ytbhdehkdnenigaa

set_option linter.unusedVariables false
set_option linter.unusedSimpArgs false
namespace Go.Proofs.Ytbhdehkdnenigaa
open Go.RowKit Go.ChangeShapes Go.WideShapes Go.Deep Go.Proofs.YtbhdehkdnenigaaW.PrintWords
section
variable {H : Type} {enc : TypeId × Value → H} {w : World} {base : Nat} {spare : Nat → Bool} {held : Bool}
abbrev Light (t : TypeId) (d : DataW H) : Prop := ∀ n ∈ d.weights Try.prog t, n ≤ reachBytes
theorem open_rows {α : Type} (d : Kd α) {t e : TypeId} {fuel B : Nat} {cs : List Value} {x : DataW H × List MemPlace} (ht : Try.prog.underlying t = some (.slice e)) (hC : Try.prog.cellsOf e = d.sz) (hB : Try.prog.bytesOf e = B) (Q : α → Prop)
    (hel : ∀ n cs' y, DataW.trod enc Try.prog w base spare held n e cs' = some y → Light e y.1 → ∃ a, d.K w a cs' ∧ Q a)
    (h : DataW.trod enc Try.prog w base spare held fuel t cs = some x) (hwt : Light t x.1) :
    ∃ (A : Option Addr) (c : Nat) (l : List α), cs = [.slice A l.length c] ∧ l.length ≤ c ∧ d.C w A l.length l ∧ l.length * B ≤ reachBytes ∧ ∀ a ∈ l, Q a := by
  rcases open_slice ht h with ⟨hcs, _⟩ | ⟨a, len, cap, m, n, D, Pl, hcs, hb, hl, hm, hmm, hx, hi⟩
  · exact ⟨none, 0, [], hcs, Nat.le_refl _, ⟨rfl, by simp, fun h => absurd h (by simp)⟩, by simp, fun a ha => by cases ha⟩
  · subst hx
    have hlm : len ≤ m := by rw [hmm]; split <;> omega
    have hw1 : (len + (m - len)) * Try.prog.bytesOf e ≤ reachBytes := by
      have := hwt _ (by simp only [DataW.weights, ht, List.length_map, List.length_range]; exact List.mem_cons_self)
      exact this
    have hw2 : ∀ i, i < len → Light e (D i) := fun i hi k hk => by
      apply hwt
      simp only [DataW.weights, ht]
      refine List.mem_cons_of_mem _ (List.mem_append_left _ ?_)
      have : ∀ (l : List (DataW H)) (z : DataW H), z ∈ l → ∀ k ∈ z.weights Try.prog e, k ∈ DataW.weightsAll Try.prog e l := by
        intro l
        induction l with
        | nil => intro z hz; cases hz
        | cons y r ih =>
          intro z hz k hk
          simp only [DataW.weightsAll, List.mem_append]
          rcases List.mem_cons.1 hz with rfl | hz
          · exact .inl hk
          · exact .inr (ih z hz k hk)
      exact this _ (D i) (List.mem_map_of_mem (List.mem_range.2 hi)) k hk
    have key : ∀ i : Nat, ∃ p : Option α, i < len → ∃ q cs', p = some q ∧ d.K w q cs' ∧ Q q ∧ cs'.length = d.sz ∧ ∀ j u, cs'[j]? = some u → w.cell? (a.add (i * d.sz + j)) = some u := fun i => by
      by_cases hlt : i < len
      · obtain ⟨cs', hc, ht'⟩ := hi i (by omega)
        obtain ⟨q, hk, hq⟩ := hel n cs' _ ht' (hw2 i hlt)
        obtain ⟨_, hcl, hat⟩ := World.cells?_some hc
        refine ⟨some q, fun _ => ⟨q, cs', rfl, hk, hq, by rw [hcl, hC], fun j u hu => ?_⟩⟩
        have hj : j < cs'.length := by
          rcases Nat.lt_or_ge j cs'.length with h | h
          · exact h
          · rw [List.getElem?_eq_none h] at hu; cases hu
        rw [← hC, ← Go.Deep.add_add, hat j (by omega), hu]
      · exact ⟨none, fun h => absurd h hlt⟩
    obtain ⟨f, hf⟩ := Classical.axiomOfChoice key
    have hlen : ((List.range len).filterMap f).length = len ∧ ∀ i, i < len → ((List.range len).filterMap f)[i]? = f i := by
      have hall : ∀ k, k ≤ len → ((List.range k).filterMap f).length = k ∧ ∀ i, i < k → ((List.range k).filterMap f)[i]? = f i := by
        intro k
        induction k with
        | zero => intro _; exact ⟨rfl, fun i hi => absurd hi (Nat.not_lt_zero _)⟩
        | succ k ih =>
          intro hk
          obtain ⟨h1, h2⟩ := ih (by omega)
          obtain ⟨q, _, e, _⟩ := hf k (by omega)
          rw [List.range_succ, List.filterMap_append]
          have e1 : List.filterMap f [k] = [q] := by simp [e]
          rw [e1]
          refine ⟨by rw [List.length_append, h1]; rfl, fun i hi => ?_⟩
          rcases Nat.lt_or_ge i k with h | h
          · rw [List.getElem?_append_left (by omega)]; exact h2 i h
          · obtain rfl : i = k := by omega
            rw [List.getElem?_append_right (by omega), h1, Nat.sub_self, e]; rfl
      exact hall len (Nat.le_refl _)
    refine ⟨some a, cap, (List.range len).filterMap f, by rw [hlen.1]; exact hcs, by rw [hlen.1]; exact hl, ?_, ?_, ?_⟩
    · rw [hlen.1]
      refine ⟨hlen.1, by have : maxLen = 9223372036854775807 := rfl; omega, fun _ => ⟨a, rfl, fun j p hj => ?_⟩⟩
      have hjl : j < len := by
        rcases Nat.lt_or_ge j len with h | h
        · exact h
        · rw [List.getElem?_eq_none (by rw [hlen.1]; exact h)] at hj; cases hj
      rw [hlen.2 j hjl] at hj
      obtain ⟨q, cs', e, hk, hq, hcl, hat⟩ := hf j hjl
      rw [e] at hj
      cases hj
      exact ⟨cs', hcl, hk, hat⟩
    · rw [hlen.1]
      rw [hB] at hw1
      exact Nat.le_trans (Nat.mul_le_mul_right _ (by omega)) hw1
    · intro z hz
      obtain ⟨i, hi, hzi⟩ := List.getElem_of_mem hz
      have hil : i < len := by rw [hlen.1] at hi; exact hi
      have h3 := hlen.2 i hil
      rw [List.getElem?_eq_getElem hi, hzi] at h3
      obtain ⟨q, cs', e, hk, hq, _⟩ := hf i hil
      rw [e] at h3
      cases h3
      exact hq
theorem open_fields {t : TypeId} {fs : Array Field} {fuel : Nat} {cs : List Value} {x : DataW H × List MemPlace} (ht : Try.prog.underlying t = some (.struct fs)) (hone : oneCellFields Try.prog fs = true) (hC : Try.prog.cellsOf t = fs.size)
    (h : DataW.trod enc Try.prog w base spare held fuel t cs = some x) (hwt : Light t x.1) :
    cs.length = fs.size ∧ ∃ (ys : List (DataW H × List MemPlace)) (n : Nat), x.1 = .agg (ys.map (·.1)) ∧ ys.length = fs.size ∧
      ∀ (j : Nat) (f : Field), fs[j]? = some f → ∃ (v : Value) (y : DataW H × List MemPlace), cs[j]? = some v ∧ ys[j]? = some y ∧ DataW.trod enc Try.prog w base spare held n f.type [v] = some y ∧ Light f.type y.1 := by
  obtain ⟨ys, n, _, hx, hcl, hyl, hf⟩ := DataW.trod_struct ht h
  subst hx
  refine ⟨by rw [hcl, hC], ys, n, rfl, hyl, fun j f hj => ?_⟩
  obtain ⟨ho, hk⟩ := hone_of hone j f hj
  have hjl : j < fs.size := (Array.getElem?_eq_some_iff.1 hj).1
  have hjc : j < cs.length := by rw [hcl, hC]; exact hjl
  have hjy : j < ys.length := by rw [hyl]; exact hjl
  have h1 := hf j f hj
  rw [ho, hk] at h1
  have hone' : (cs.drop j).take 1 = [cs[j]] := by
    rw [List.drop_eq_getElem_cons hjc]
    rfl
  rw [hone', List.getElem?_eq_getElem hjy] at h1
  refine ⟨cs[j], ys[j], List.getElem?_eq_getElem hjc, List.getElem?_eq_getElem hjy, h1, fun k hk => ?_⟩
  apply hwt
  simp only [DataW.weights, ht]
  exact DataW.weights_mem_each (j := j) (t := f.type) (d := ys[j].1) (by rw [List.getElem?_map, Array.getElem?_toList, hj]; rfl) (by rw [List.getElem?_map, List.getElem?_eq_getElem hjy]; rfl) k hk
theorem open_text {n : Nat} {v : Value} {y : DataW H × List MemPlace} (h : DataW.trod enc Try.prog w base spare held n 9 [v] = some y) (hw : Light 9 y.1) : ∃ s : ByteArray, v = .string s ∧ s.size ≤ 140737488355328 := by
  obtain ⟨s, e, rfl, _⟩ := DataW.trod_string Try.underlying9 h
  cases e
  refine ⟨s, rfl, ?_⟩
  have := hw s.data.toList.length (by simp [DataW.weights])
  rw [Array.length_toList] at this
  have h2 : s.size = s.data.size := rfl
  unfold reachBytes at this
  omega
theorem open_num {n : Nat} {v : Value} {y : DataW H × List MemPlace} (h : DataW.trod enc Try.prog w base spare held n 2 [v] = some y) : ∃ z : Int, v = .int .i64 z ∧ (Lit.int .i64 z).wf = true := by
  obtain ⟨z, e, _, hz⟩ := DataW.trod_int Try.underlying2 h
  cases e
  exact ⟨z, rfl, hz⟩
theorem open_truth {n : Nat} {v : Value} {y : DataW H × List MemPlace} (h : DataW.trod enc Try.prog w base spare held n 4 [v] = some y) : ∃ b : Bool, v = .bool b := by
  obtain ⟨b, e, _⟩ := DataW.trod_bool Try.underlying4 h
  cases e
  exact ⟨b, rfl⟩
theorem open_pair {n : Nat} {cs : List Value} {y : DataW H × List MemPlace} (h : DataW.trod enc Try.prog w base spare held n 60 cs = some y) (hw : Light 60 y.1) : ∃ p : Pr, kPr.K w p cs ∧ (p.n.size ≤ 140737488355328 ∧ p.v.size ≤ 140737488355328) := by
  obtain ⟨hl, ys, m, _, _, hf⟩ := open_fields Try.underlying60 (by kernel_rfl) (by kernel_rfl) h hw
  obtain ⟨v0, y0, e0, _, t0, w0⟩ := hf 0 _ rfl
  obtain ⟨v1, y1, e1, _, t1, w1⟩ := hf 1 _ rfl
  obtain ⟨a, rfl, ha⟩ := open_text t0 w0
  obtain ⟨b, rfl, hb⟩ := open_text t1 w1
  match cs, hl, e0, e1 with
  | [c0, c1], _, e0, e1 =>
    cases e0
    cases e1
    exact ⟨⟨a, b⟩, kPr_mk w ⟨a, b⟩, ha, hb⟩
def VnOk (x : Vn) : Prop := x.Fits ∧ x.pairs.length * 32 ≤ 140737488351232 ∧ (Lit.int .i64 x.seq).wf = true
theorem open_version {n : Nat} {cs : List Value} {y : DataW H × List MemPlace} (h : DataW.trod enc Try.prog w base spare held n 48 cs = some y) (hw : Light 48 y.1) : ∃ x : Vn, kVn.K w x cs ∧ VnOk x := by
  obtain ⟨hl, ys, m, _, _, hf⟩ := open_fields Try.underlying48 (by kernel_rfl) (by kernel_rfl) h hw
  obtain ⟨v0, y0, e0, _, t0, w0⟩ := hf 0 _ rfl
  obtain ⟨v1, y1, e1, _, t1, w1⟩ := hf 1 _ rfl
  obtain ⟨v2, y2, e2, _, t2, w2⟩ := hf 2 _ rfl
  obtain ⟨v3, y3, e3, _, t3, w3⟩ := hf 3 _ rfl
  obtain ⟨v4, y4, e4, _, t4, w4⟩ := hf 4 _ rfl
  obtain ⟨a, rfl, ha⟩ := open_text t0 w0
  obtain ⟨z, rfl, hz⟩ := open_num t1
  obtain ⟨g, rfl⟩ := open_truth t2
  obtain ⟨b, rfl, hb⟩ := open_text t3 w3
  obtain ⟨A, c, l, e, hc, hC, hB, hQ⟩ := open_rows kPr Try.underlying46 (by kernel_rfl) (by kernel_rfl : _ = 32) (fun p : Pr => p.n.size ≤ 140737488355328 ∧ p.v.size ≤ 140737488355328) (fun n cs' y h hw => open_pair h hw) t4 w4
  cases e
  match cs, hl, e0, e1, e2, e3, e4 with
  | [c0, c1, c2, c3, c4], _, e0, e1, e2, e3, e4 =>
    cases e0
    cases e1
    cases e2
    cases e3
    cases e4
    exact ⟨⟨a, z, g, b, l⟩, kVn_mk w ⟨a, z, g, b, l⟩ hc hC, ⟨ha, hb, hQ⟩, hB, hz⟩
def BkOk (l : List Vn) : Prop := ∀ x ∈ l, (Lit.int .i64 x.seq).wf = true
theorem open_bucket {n : Nat} {cs : List Value} {y : DataW H × List MemPlace} (h : DataW.trod enc Try.prog w base spare held n 24 cs = some y) (hw : Light 24 y.1) :
    ∃ (nx : Int) (A : Option Addr) (c : Nat) (l : List Vn), cs = [.int .i64 nx, .slice A l.length c] ∧ (Lit.int .i64 nx).wf = true ∧ l.length ≤ c ∧ kVn.C w A l.length l ∧ Room l ∧ BkOk l := by
  obtain ⟨hl, ys, m, _, _, hf⟩ := open_fields Try.underlying24 (by kernel_rfl) (by kernel_rfl) h hw
  obtain ⟨v0, y0, e0, _, t0, w0⟩ := hf 0 _ rfl
  obtain ⟨v1, y1, e1, _, t1, w1⟩ := hf 1 _ rfl
  obtain ⟨z, rfl, hz⟩ := open_num t0
  obtain ⟨A, c, l, e, hc, hC, hB, hQ⟩ := open_rows kVn Try.underlying22 (by kernel_rfl) (by kernel_rfl : _ = 72) VnOk (fun n cs' y h hw => open_version h hw) t1 w1
  cases e
  match cs, hl, e0, e1 with
  | [c0, c1], _, e0, e1 =>
    cases e0
    cases e1
    exact ⟨z, A, c, l, rfl, hz, hc, hC, ⟨hB, fun x hx => (hQ x hx).2.1, fun x hx => (hQ x hx).1⟩, fun x hx => (hQ x hx).2.2⟩
theorem light_of {ts : List TypeId} {ds : List (DataW H)} (hz : (DataW.weightsEach Try.prog ts ds).all (· ≤ reachBytes) = true) {j : Nat} {t : TypeId} {d : DataW H} (ht : ts[j]? = some t) (hd : ds[j]? = some d) : Light t d := fun n hn => by
  have := List.all_eq_true.1 hz n (DataW.weights_mem_each ht hd n hn)
  simpa using this
theorem open_bucket_arg {r : Reach} {b0 : Nat} {v : Value} {d : DataW H} {p : List MemPlace} (hv : Value.okWide Try.prog w r b0 24 v) (h : DataW.Trod enc Try.prog w base spare held 24 v d p) (hw : Light 24 d) :
    ∃ (nx : Int) (A : Option Addr) (c : Nat) (l : List Vn), v = .agg #[.int .i64 nx, .slice A l.length c] ∧ (Lit.int .i64 nx).wf = true ∧ l.length ≤ c ∧ kVn.C w A l.length l ∧ Room l ∧ BkOk l := by
  obtain ⟨cs, rfl, hsz⟩ := okWide_struct Try.underlying24 hv
  obtain ⟨fuel, hf⟩ := h
  obtain ⟨nx, A, c, l, e, r⟩ := open_bucket hf hw
  obtain ⟨cs⟩ := cs
  have e2 : cs = [.int .i64 nx, .slice A l.length c] := e
  subst e2
  exact ⟨nx, A, c, l, rfl, r⟩
end
end Go.Proofs.Ytbhdehkdnenigaa

namespace Go.Proofs.Ytbhdehkdnenigaa.lawDeltaApart
open Go.ChangeShapes Go.WideShapes Go.ChangeAt Go.RowKit
set_option linter.unusedVariables false
set_option linter.unusedSimpArgs false
theorem contract (H : Type) (enc : TypeId × Value → H) (W : World) (base : Nat) (args : Array Value) (ds gs : List (DataW H)) (before : List MemPlace)
    (hval : ∀ (j : Nat) t v, Try.f7.params[j]? = some t → args[j]? = some v → Value.okWide Try.prog W .any base t v)
    (hW : DataW.Whole enc Try.prog Try.f7.params.toList Rows.deltaApartSpec.vars false W args.toList ds gs before)
    (hz : (DataW.weightsEach Try.prog (Try.f7.params.toList ++ ([] : List TypeId)) (ds ++ gs)).all (· ≤ reachBytes) = true) :
    Calls Try.prog 7 args W fun e W' => ∃ v, e = .returned v ∧ Rows.deltaApartSpec.post enc Try.prog Try.f7 false true false false W args v W' := by
  have hW' := hW
  obtain ⟨p, q, hA0, hV, rfl, hfz, hnd⟩ := hW
  have hA : DataW.TrodAll enc Try.prog W 0 (fun _ => true) true Try.f7.params.toList args.toList ds p := hA0
  rw [Try.params7] at hA hval hz
  obtain ⟨v0, vs0, d0, ds0, p0, q0, hargs, rfl, rfl, h0, r0⟩ := trodAll_cons hA
  obtain ⟨v1, vs1, d1, ds1, p1, q1, rfl, rfl, rfl, h1, r1⟩ := trodAll_cons r0
  obtain ⟨rfl, rfl, rfl⟩ := trodAll_nil r1
  obtain rfl : args = #[v0, v1] := by cases args; simp_all
  obtain ⟨rfl, rfl⟩ := trodVars_none hV
  obtain ⟨n0, A0, c0, l0, rfl, w0, hl0, hC0, R0, B0⟩ := open_bucket_arg (hval 0 24 v0 rfl rfl) h0 (light_of hz (j := 0) rfl rfl)
  obtain ⟨a1, rfl, rfl, rfl, w1⟩ := open_int Try.underlying2 (hval 1 2 v1 rfl rfl) h1
  clear hA0
  have hc : Calls Try.prog 7 #[.agg #[.int .i64 n0, .slice A0 l0.length c0], .int .i64 a1] W fun e W' => e = .returned (.bool true) ∧ Below W.heap.size W W' := apart_any l0 n0 a1 A0 c0 W hC0 hl0 R0
  exact hc.mono fun e W' ⟨he, hb⟩ => ⟨_, he, law_post rfl (by rw [Try.params7]; decide +kernel) (tb := 4) (by kernel_rfl) Try.underlying4 ⟨rfl, rfl, rfl⟩ hW' hb⟩
set_option maxRecDepth 100000 in
theorem lifted (os : Os) (started : os.Started) (H : Type) (enc : TypeId × Value → H) :
    ReturnsInHanded {} Try.checked os 7 .any (Rows.deltaApartSpec.pre6 enc Try.prog Try.f7 Rows.deltaApartRow.domain false) (Rows.deltaApartSpec.post enc Try.prog Try.f7 false true false false) := by
  refine returnsInHanded_of_change_sized (C := Try.checked) own started (by kernel_rfl) Try.func7
    (ChangeSpec.witness6 (enc := enc) (C := Try.checked) false ⟨#[], #[.agg #[.int .i64 0, .slice none 0 0], .int .i64 0], []⟩ 8 (by kernel_rfl) (by kernel_rfl) (by kernel_rfl) (by kernel_rfl)) ?_
  intro W base args ds gs before hval hW hcnd hsz _
  exact contract H enc W base args ds gs before hval hW hsz
theorem proved : Rows.DeltaApartSaid :=
  OpenClaim.holds_of_wide 7 Try.f7 rfl rfl rfl rfl rfl rfl rfl ⟨rfl, rfl, rfl, rfl, rfl⟩ rfl rfl rfl rfl rfl (by kernel_rfl) Try.func7 (by kernel_rfl)
    (of_decide_eq_true (by kernel_rfl)) (by unfold Func.isWrapper; first | (rw [if_pos (by decide +kernel)]; kernel_rfl) | (rw [if_neg (by decide +kernel)]; exact ⟨rfl, rfl⟩))
    (fun os started H enc _ => lifted os started H enc)
end Go.Proofs.Ytbhdehkdnenigaa.lawDeltaApart

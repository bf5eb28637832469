/- The law DeltaLaid of this seat: coffer/cofferlaw19.DeltaLaid returns true for every input, and its arguments read as they did.
Walk: the law DeltaLaid.
The law DeltaLaid answers true: both ways.
What a law's contract gives its row: true is told, and what came in reads as it did.
What comes in: a bucket's value, a delta, opened to rows of versions; what the row's weights say of them. -/
import Derived.Test.YtbhdehkdnenigaaProg
import Derived.WalkKit
import Derived.ProofKit
import Derived.OpenShut
import Derived.ShutString
import Derived.Deep.DeepHandedRow
import Derived.Lib.LaidTab
import Derived.Deep.Slices
import Derived.Deep.Fields
import Derived.ChangeSame
import Derived.SizedLaws
import Derived.Test.YtbhdehkdnenigaaRows
import Derived.Test.YtbhdehkdnenigaaQL5
set_option linter.unusedVariables false
set_option linter.unusedSimpArgs false
namespace Go.Proofs.Ytbhdehkdnenigaa
open Go.RowKit Go.Proofs.YtbhdehkdnenigaaW.PrintWords Go.Proofs.YtbhdehkdnenigaaW.PrintLast

set_option maxRecDepth 100000 in
set_option maxHeartbeats 16000000 in
theorem laid_true (l k : List Vn) (nb s n2 : Int) (A B : Option Addr) (c d : Nat) (w : World) (hC : kVn.C w A l.length l) (hl : l.length ≤ c) (HR : Room l) (hD : kVn.C w B k.length k) (hm : k.length ≤ d) (HQ : Room k) :
    Calls Try.prog 6 #[.agg #[.int .i64 nb, .slice A l.length c], .agg #[.int .i64 s, .int .i64 n2, .slice B k.length d], .bool true] w fun e w' => e = .returned (.bool true) ∧ Below w.heap.size w w' := by
  have C_l := Lib.hid hC
  have C_k := Lib.hid hD
  clear hC hD
  go_enter Try.func6, Try.ntmps6
  go_upto_region 5 with (first | (go_at_call 8; (with_reducible refine (first_any _).mono ?_; rintro e w1 ⟨rfl, hb⟩; have N_w1 := Lib.hid (bt (below2 w _ _) hb); have B_v_0 : Hid (World.cell? w1 ⟨w.heap.size, 0, none⟩ = some (.int .i64 nb)) := Lib.hid (pw_cell_below hb (by simp [go_sem])); have B_v_1 : Hid (World.cell? w1 ⟨w.heap.size, 1, none⟩ = some (.slice A l.length c)) := Lib.hid (pw_cell_below hb (by simp [go_sem])); have B_d_0 : Hid (World.cell? w1 ⟨w.heap.size + 1, 0, none⟩ = some (.int .i64 s)) := Lib.hid (pw_cell_below hb (by simp [go_sem])); have B_d_1 : Hid (World.cell? w1 ⟨w.heap.size + 1, 1, none⟩ = some (.int .i64 n2)) := Lib.hid (pw_cell_below hb (by simp [go_sem])); have B_d_2 : Hid (World.cell? w1 ⟨w.heap.size + 1, 2, none⟩ = some (.slice B k.length d)) := Lib.hid (pw_cell_below hb (by simp [go_sem])); have Vv_0 := B_v_0.out; have Vv_1 := B_v_1.out; have Vd_0 := B_d_0.out; have Vd_1 := B_d_1.out; have Vd_2 := B_d_2.out; have fr1 : ∀ j, w1.frozen? ⟨w.heap.size, j, none⟩ = false := fun j => frozen_below hb (show w.heap.size < (World.heap (World.alloc (World.alloc w (.cells #[.int .i64 nb, .slice A l.length c] 24)) (.cells #[.int .i64 s, .int .i64 n2, .slice B k.length d] 27))).size by rw [alloc_size, alloc_size]; omega) (by simp [go_sem]); have hsz : w.heap.size + 2 ≤ w1.heap.size := Nat.le_trans (by rw [alloc_size, alloc_size]; omega) hb.size; clear hb)) | (go_at_call 20; (with_reducible refine (below_R l nb s A c _ (Kd.C_below C_l.out N_w1.out) hl HR).mono ?_; rintro e w2 ⟨A_b, c_b, rfl, hl_b, hRb, hb⟩; have fr2 : ∀ j, w2.frozen? ⟨w.heap.size, j, none⟩ = false := fun j => frozen_below hb (show w.heap.size < w1.heap.size by omega) (fr1 j); have x0 := pw_cell_below hb Vv_0; have x1 := pw_cell_below hb Vv_1; have y0 := pw_cell_below hb Vd_0; have y1 := pw_cell_below hb Vd_1; have y2 := pw_cell_below hb Vd_2; have N2 := bt N_w1.out hb; clear hb Vv_0 Vv_1 Vd_0 Vd_1 Vd_2 fr1)))
  obtain ⟨hs1, hs2, hs3, hs4, hs5, hs6, hs7⟩ := stored_over s n2 s N2 x0 x1 y0 y1 y2 fr2 (show w.heap.size < w1.heap.size by omega) hRb
  generalize ((w2.setCell ⟨w.heap.size, 0, none⟩ (.int .i64 s)).setCell ⟨w.heap.size, 1, none⟩ (.slice A_b (lower l s).length c_b)) = w3 at *
  clear x0 x1 y0 y1 y2 fr2 N2 hRb B_v_0 B_v_1 B_d_0 B_d_1 B_d_2
  have N_w3 := Lib.hid hs1
  have B_v_0 := Lib.hid hs2
  have B_v_1 := Lib.hid hs3
  have B_d_0 := Lib.hid hs4
  have B_d_1 := Lib.hid hs5
  have B_d_2 := Lib.hid hs6
  have C_b := Lib.hid hs7
  clear hs1 hs2 hs3 hs4 hs5 hs6 hs7
  have Rb : Room (lower l s) := room_filter HR _
  cases hr : rightV (lower l s) s with
  | false =>
    have V_v_0 : World.cell? w3 ⟨w.heap.size, 0, none⟩ = some (.int .i64 s) := pw_cell_below (Below.refl _ _) B_v_0.out
    have V_v_1 : World.cell? w3 ⟨w.heap.size, 1, none⟩ = some (.slice A_b (lower l s).length c_b) := pw_cell_below (Below.refl _ _) B_v_1.out
    go_wp2_with (first
      | (go_at_call 12; with_reducible refine (right_is (lower l s) s A_b c_b _ (Kd.C_below C_b.out (Below.refl _ _)) hl_b Rb.fits hr).mono ?_; rintro e w4 ⟨rfl, hb⟩; clear V_v_0 V_v_1; have N_w4 := Lib.hid (bt (x := w3) (Below.refl _ _) hb); have V_d_0 : World.cell? w4 ⟨w.heap.size + 1, 0, none⟩ = some (.int .i64 s) := pw_cell_below N_w4.out B_d_0.out; have V_d_1 : World.cell? w4 ⟨w.heap.size + 1, 1, none⟩ = some (.int .i64 n2) := pw_cell_below N_w4.out B_d_1.out; have V_d_2 : World.cell? w4 ⟨w.heap.size + 1, 2, none⟩ = some (.slice B k.length d) := pw_cell_below N_w4.out B_d_2.out; clear hb)
      )
    go_ret
    exact ⟨rfl, (bt N_w3.out N_w4.out)⟩
  | true =>
    have rt := (right_iff _ _).1 hr
    cases hd : rightD k n2 s with
    | false =>
      have V_v_0 : World.cell? w3 ⟨w.heap.size, 0, none⟩ = some (.int .i64 s) := pw_cell_below (Below.refl _ _) B_v_0.out
      have V_v_1 : World.cell? w3 ⟨w.heap.size, 1, none⟩ = some (.slice A_b (lower l s).length c_b) := pw_cell_below (Below.refl _ _) B_v_1.out
      go_wp2_with (first
        | (go_at_call 12; with_reducible refine (right_is (lower l s) s A_b c_b _ (Kd.C_below C_b.out (Below.refl _ _)) hl_b Rb.fits hr).mono ?_; rintro e w4 ⟨rfl, hb⟩; clear V_v_0 V_v_1; have N_w4 := Lib.hid (bt (x := w3) (Below.refl _ _) hb); have V_d_0 : World.cell? w4 ⟨w.heap.size + 1, 0, none⟩ = some (.int .i64 s) := pw_cell_below N_w4.out B_d_0.out; have V_d_1 : World.cell? w4 ⟨w.heap.size + 1, 1, none⟩ = some (.int .i64 n2) := pw_cell_below N_w4.out B_d_1.out; have V_d_2 : World.cell? w4 ⟨w.heap.size + 1, 2, none⟩ = some (.slice B k.length d) := pw_cell_below N_w4.out B_d_2.out; clear hb)
        | (go_at_call 14; with_reducible refine (right9_is k n2 s B d _ (Kd.C_below C_k.out (bt N_w3.out N_w4.out)) hm HQ.fits hd).mono ?_; rintro e w5 ⟨rfl, hb⟩; clear V_d_0 V_d_1 V_d_2; have N_w5 := Lib.hid (bt (x := w4) (Below.refl _ _) hb); clear hb)
        )
      go_ret
      exact ⟨rfl, (bt (bt N_w3.out N_w4.out) N_w5.out)⟩
    | true =>
      have dt := (rightD_iff _ _ _).1 hd
      have V_v_0 : World.cell? w3 ⟨w.heap.size, 0, none⟩ = some (.int .i64 s) := pw_cell_below (Below.refl _ _) B_v_0.out
      have V_v_1 : World.cell? w3 ⟨w.heap.size, 1, none⟩ = some (.slice A_b (lower l s).length c_b) := pw_cell_below (Below.refl _ _) B_v_1.out
      go_upto_region 7 with (first
        | (go_at_call 12; with_reducible refine (right_is (lower l s) s A_b c_b _ (Kd.C_below C_b.out (Below.refl _ _)) hl_b Rb.fits hr).mono ?_; rintro e w4 ⟨rfl, hb⟩; clear V_v_0 V_v_1; have N_w4 := Lib.hid (bt (x := w3) (Below.refl _ _) hb); have V_d_0 : World.cell? w4 ⟨w.heap.size + 1, 0, none⟩ = some (.int .i64 s) := pw_cell_below N_w4.out B_d_0.out; have V_d_1 : World.cell? w4 ⟨w.heap.size + 1, 1, none⟩ = some (.int .i64 n2) := pw_cell_below N_w4.out B_d_1.out; have V_d_2 : World.cell? w4 ⟨w.heap.size + 1, 2, none⟩ = some (.slice B k.length d) := pw_cell_below N_w4.out B_d_2.out; clear hb)
        | (go_at_call 14; with_reducible refine (right9_is k n2 s B d _ (Kd.C_below C_k.out (bt N_w3.out N_w4.out)) hm HQ.fits hd).mono ?_; rintro e w5 ⟨rfl, hb⟩; clear V_d_0 V_d_1 V_d_2; have N_w5 := Lib.hid (bt (x := w4) (Below.refl _ _) hb); clear hb)
        )
      clear hr hd
      have t8 : (s != s) = false := by simp
      by_cases h2 : (lower l s).length + k.length ≤ 256
      case neg =>
        have hb1 := Rb.len
        have hb2 := HQ.len
        have t10 : decide ((256 : Int) < ((lower l s).length : Int) + (k.length : Int)) = true := decide_eq_true (by omega)
        refine start_ (n := 15) (S := fun w' => w'.cell? ⟨w.heap.size, 0, none⟩ = some (.int .i64 s) ∧ w'.cell? ⟨w.heap.size, 1, none⟩ = some (.slice A_b (lower l s).length c_b) ∧ w'.cell? ⟨w.heap.size + 1, 0, none⟩ = some (.int .i64 s) ∧ w'.cell? ⟨w.heap.size + 1, 1, none⟩ = some (.int .i64 n2) ∧ w'.cell? ⟨w.heap.size + 1, 2, none⟩ = some (.slice B k.length d)) (ds := [13]) #[false, false, false, false, false, false, false, false, false, false, false, false, false, false, false] (by kernel_rfl) rfl rfl ⟨pw_cell_below (bt (bt N_w4.out N_w5.out) (Below.refl _ _).drew) B_v_0.out, pw_cell_below (bt (bt N_w4.out N_w5.out) (Below.refl _ _).drew) B_v_1.out, pw_cell_below (bt (bt N_w4.out N_w5.out) (Below.refl _ _).drew) B_d_0.out, pw_cell_below (bt (bt N_w4.out N_w5.out) (Below.refl _ _).drew) B_d_1.out, pw_cell_below (bt (bt N_w4.out N_w5.out) (Below.refl _ _).drew) B_d_2.out⟩ (fun hHeld => ?_)
        refine with_tabW fL.tab7 fL.bits7 (fun HT_ HW_ => ?_)
        refine pure_ (i := 2) (N := some 27) (v := ?_) (a' := ?_) #[false, false, true, false, false, false, false, false, false, false, false, false, false, false, false] rfl rfl (any_of HT_.out (by kernel_rfl)) (fun _ _ _ h => h) (Or.inl ⟨by rfl, ?_⟩) ?_ ?_
        rotate_left
        · intro w'
          go_simp
          with_reducible rfl
        rotate_left
        · simp only [Act.put, List.setIfInBounds_toArray, List.set_cons_zero, List.set_cons_succ, i64_w, i32_w]
          rfl
        refine pure_ (i := 4) (N := some 29) (v := ?_) (a' := ?_) #[false, false, true, false, true, false, false, false, false, false, false, false, false, false, false] rfl rfl (any_of HT_.out (by kernel_rfl)) (fun _ _ _ h => h) (Or.inl ⟨by rfl, ?_⟩) ?_ ?_
        rotate_left
        · intro w'
          go_simp
          with_reducible rfl
        rotate_left
        · simp only [Act.put, List.setIfInBounds_toArray, List.set_cons_zero, List.set_cons_succ, i64_w, i32_w]
          rfl
        refine take_ (i := 0) (N := some 25) (v := ?_) (a' := ?_) #[true, false, true, false, true, false, false, false, false, false, false, false, false, false, false] rfl rfl (take_ofW HT_.out HW_.out (by kernel_rfl)) (fun _ _ _ h => h) (Or.inl ⟨by rfl, ?_⟩) hHeld ?_ ?_
        rotate_left
        · rintro w' ⟨s0, s1, s2, s3, s4⟩
          go_simp
          with_reducible rfl
        rotate_left
        · simp only [Act.put, List.setIfInBounds_toArray, List.set_cons_zero, List.set_cons_succ, i64_w, i32_w]
          rfl
        refine take_ (i := 3) (N := some 28) (v := ?_) (a' := ?_) #[true, false, true, true, true, false, false, false, false, false, false, false, false, false, false] rfl rfl (take_ofW HT_.out HW_.out (by kernel_rfl)) (fun _ _ _ h => h) (Or.inl ⟨by rfl, ?_⟩) hHeld ?_ ?_
        rotate_left
        · rintro w' ⟨s0, s1, s2, s3, s4⟩
          go_simp
          with_reducible rfl
        rotate_left
        · simp only [Act.put, List.setIfInBounds_toArray, List.set_cons_zero, List.set_cons_succ, i64_w, i32_w]
          rfl
        refine take_ (i := 5) (N := some 30) (v := ?_) (a' := ?_) #[true, false, true, true, true, true, false, false, false, false, false, false, false, false, false] rfl rfl (take_ofW HT_.out HW_.out (by kernel_rfl)) (fun _ _ _ h => h) (Or.inl ⟨by rfl, ?_⟩) hHeld ?_ ?_
        rotate_left
        · rintro w' ⟨s0, s1, s2, s3, s4⟩
          go_simp
          with_reducible rfl
        rotate_left
        · simp only [Act.put, List.setIfInBounds_toArray, List.set_cons_zero, List.set_cons_succ, i64_w, i32_w]
          rfl
        refine join_ (σ := Nat × Option Addr × Nat × Option Addr × Nat) 2 #[true, true, true, true, true, true, true, true, true, true, true, true, true, false, false] (fun sg => [(26, .agg #[.int .i64 s, .slice sg.2.1 (lower l s).length sg.2.2.1]), (31, .agg #[.int .i64 n2, .slice sg.2.2.2.1 k.length sg.2.2.2.2]), (32, .agg #[.int .i64 s, .int .i64 n2, .slice sg.2.2.2.1 k.length sg.2.2.2.2]), (33, .tuple #[.agg #[.int .i64 0, .slice none 0 0], .int .i64 75]), (24, .tuple #[.agg #[.int .i64 0, .slice none 0 0], .int .i64 75]), (34, .agg #[.int .i64 0, .slice none 0 0]), (35, .int .i64 75), (7, .pointer (some ⟨sg.1, 0, none⟩))]) (fun sg w' => (Below w5.heap.size w5 w' ∧ Zbox w' sg.1 ∧ w5.heap.size ≤ sg.1)) ?_ ?_
        rotate_left
        · intro hCont
          refine two_ (i := 1) (j := 12) (Ni := some 26) (Nj := some 7) #[true, true, true, true, true, true, false, false, false, false, false, false, false, false, false] #[true, false, true, true, true, true, false, false, false, false, false, false, true, false, false] rfl rfl rfl rfl (two_of HT_.out (by kernel_rfl)) (by decide) (by decide) (fun K hK => ?_) (fun K hK => ?_)
          · skip
            refine goes_ Try.func10 (by kernel_rfl) rfl #[.agg #[.int .i64 s, .slice A_b (lower l s).length c_b]] (by rfl) rfl rfl (by simp only [List.map_toArray, List.map_cons, List.map_nil]; first | rfl | (refine congrArg List.toArray (congr (congrArg List.cons ?_) (congrArg (fun z => [z]) ?_)) <;> first | rfl | go_simp)) ?_
            with_reducible refine (copy_C (lower l s) s A_b c_b _ (Kd.C_below C_b.out (bt (bt N_w4.out N_w5.out) (Below.refl w5.heap.size w5).drew)) hl_b Rb).mono ?_
            rintro e wq0 ⟨A1, c1, rfl, hc1, hC1, hb0⟩
            refine ⟨_, rfl, ?_⟩
            refine hK.out _ _ ⟨pw_cell_below hb0 (hHeld.1), pw_cell_below hb0 (hHeld.2.1), pw_cell_below hb0 (hHeld.2.2.1), pw_cell_below hb0 (hHeld.2.2.2.1), pw_cell_below hb0 (hHeld.2.2.2.2)⟩ (fun hHeld => ?_)
            clear hK K
            refine norm_ (a' := ?_) ?_ ?_
            rotate_left
            · show Act.put _ (some 26) _ = _
              simp only [Act.put, List.setIfInBounds_toArray, List.set_cons_zero, List.set_cons_succ, i64_w, i32_w]
              rfl
            refine two_ (i := 6) (j := 12) (Ni := some 31) (Nj := some 7) #[true, true, true, true, true, true, true, false, false, false, false, false, false, false, false] #[true, true, true, true, true, true, false, false, false, false, false, false, true, false, false] rfl rfl rfl rfl (two_of HT_.out (by kernel_rfl)) (by decide) (by decide) (fun K hK => ?_) (fun K hK => ?_)
            · skip
              refine goes_ Try.func10 (by kernel_rfl) rfl #[.agg #[.int .i64 n2, .slice B k.length d]] (by rfl) rfl rfl (by simp only [List.map_toArray, List.map_cons, List.map_nil]; first | rfl | (refine congrArg List.toArray (congr (congrArg List.cons ?_) (congrArg (fun z => [z]) ?_)) <;> first | rfl | go_simp)) ?_
              with_reducible refine (copy_C k n2 B d _ (Kd.C_below C_k.out (bt (bt (bt N_w3.out N_w4.out) N_w5.out) (bt (Below.refl w5.heap.size w5).drew hb0))) hm HQ).mono ?_
              rintro e wq1 ⟨A2, c2, rfl, hc2, hC2, hb1⟩
              refine ⟨_, rfl, ?_⟩
              refine hK.out _ _ ⟨pw_cell_below hb1 (hHeld.1), pw_cell_below hb1 (hHeld.2.1), pw_cell_below hb1 (hHeld.2.2.1), pw_cell_below hb1 (hHeld.2.2.2.1), pw_cell_below hb1 (hHeld.2.2.2.2)⟩ (fun hHeld => ?_)
              clear hK K
              refine norm_ (a' := ?_) ?_ ?_
              rotate_left
              · show Act.put _ (some 31) _ = _
                simp only [Act.put, List.setIfInBounds_toArray, List.set_cons_zero, List.set_cons_succ, i64_w, i32_w]
                rfl
              refine pure_ (i := 7) (N := some 32) (v := ?_) (a' := ?_) #[true, true, true, true, true, true, true, true, false, false, false, false, false, false, false] rfl rfl (any_of HT_.out (by kernel_rfl)) (fun _ _ _ h => h) (Or.inl ⟨by rfl, ?_⟩) ?_ ?_
              rotate_left
              · intro w'
                go_simp
                with_reducible rfl
              rotate_left
              · simp only [Act.put, List.setIfInBounds_toArray, List.set_cons_zero, List.set_cons_succ, i64_w, i32_w]
                rfl
              refine two_ (i := 8) (j := 12) (Ni := some 33) (Nj := some 7) #[true, true, true, true, true, true, true, true, true, false, false, false, false, false, false] #[true, true, true, true, true, true, true, true, false, false, false, false, true, false, false] rfl rfl rfl rfl (two_of HT_.out (by kernel_rfl)) (by decide) (by decide) (fun K hK => ?_) (fun K hK => ?_)
              · skip
                refine goes_ Try.func16 (by kernel_rfl) rfl #[.agg #[.int .i64 s, .slice A1 (lower l s).length c1], .agg #[.int .i64 s, .int .i64 n2, .slice A2 k.length c2]] (by rfl) rfl rfl (by simp only [List.map_toArray, List.map_cons, List.map_nil]; first | rfl | (refine congrArg List.toArray (congr (congrArg List.cons ?_) (congrArg (fun z => [z]) ?_)) <;> first | rfl | go_simp)) ?_
                with_reducible refine (apply_cnt (lower l s) k s n2 A1 A2 c1 c2 _ Rb HQ h2).mono ?_
                rintro e wq2 ⟨rfl, hb2⟩
                refine ⟨_, rfl, ?_⟩
                refine hK.out _ _ ⟨pw_cell_below hb2 (hHeld.1), pw_cell_below hb2 (hHeld.2.1), pw_cell_below hb2 (hHeld.2.2.1), pw_cell_below hb2 (hHeld.2.2.2.1), pw_cell_below hb2 (hHeld.2.2.2.2)⟩ (fun hHeld => ?_)
                clear hK K
                refine norm_ (a' := ?_) ?_ ?_
                rotate_left
                · show Act.put _ (some 33) _ = _
                  simp only [Act.put, List.setIfInBounds_toArray, List.set_cons_zero, List.set_cons_succ, i64_w, i32_w]
                  rfl
                refine pure_ (i := 9) (N := some 24) (v := ?_) (a' := ?_) #[true, true, true, true, true, true, true, true, true, true, false, false, false, false, false] rfl rfl (any_of HT_.out (by kernel_rfl)) (fun _ _ _ h => h) (Or.inl ⟨by rfl, ?_⟩) ?_ ?_
                rotate_left
                · intro w'
                  go_simp
                  with_reducible rfl
                rotate_left
                · simp only [Act.put, List.setIfInBounds_toArray, List.set_cons_zero, List.set_cons_succ, i64_w, i32_w]
                  rfl
                refine pure_ (i := 10) (N := some 34) (v := ?_) (a' := ?_) #[true, true, true, true, true, true, true, true, true, true, true, false, false, false, false] rfl rfl (any_of HT_.out (by kernel_rfl)) (fun _ _ _ h => h) (Or.inl ⟨by rfl, ?_⟩) ?_ ?_
                rotate_left
                · intro w'
                  go_simp
                  with_reducible rfl
                rotate_left
                · simp only [Act.put, List.setIfInBounds_toArray, List.set_cons_zero, List.set_cons_succ, i64_w, i32_w]
                  rfl
                refine pure_ (i := 11) (N := some 35) (v := ?_) (a' := ?_) #[true, true, true, true, true, true, true, true, true, true, true, true, false, false, false] rfl rfl (any_of HT_.out (by kernel_rfl)) (fun _ _ _ h => h) (Or.inl ⟨by rfl, ?_⟩) ?_ ?_
                rotate_left
                · intro w'
                  go_simp
                  with_reducible rfl
                rotate_left
                · simp only [Act.put, List.setIfInBounds_toArray, List.set_cons_zero, List.set_cons_succ, i64_w, i32_w]
                  rfl
                refine one_ (i := 12) (N := some 7) #[true, true, true, true, true, true, true, true, true, true, true, true, true, false, false] rfl rfl (one_of HT_.out (by kernel_rfl)) (by decide) (fun K hK => ?_)
                refine value_ (w1 := ?_) (v := ?_) (by rfl) rfl ?_ ?_
                rotate_left 2
                · go_simp
                  constructor
                  · rfl
                  · rfl
                refine hK.out _ _ ⟨pw_cell_below (below1 _ _) (hHeld.1), pw_cell_below (below1 _ _) (hHeld.2.1), pw_cell_below (below1 _ _) (hHeld.2.2.1), pw_cell_below (below1 _ _) (hHeld.2.2.2.1), pw_cell_below (below1 _ _) (hHeld.2.2.2.2)⟩ (fun hHeld => ?_)
                clear hK K
                refine norm_ (a' := ?_) ?_ ?_
                rotate_left
                · show Act.put _ (some 7) _ = _
                  simp only [Act.put, List.setIfInBounds_toArray, List.set_cons_zero, List.set_cons_succ, i64_w, i32_w]
                  rfl
                exact norm_ (by simp only [putAll, Act.put, List.setIfInBounds_toArray, List.set_cons_zero, List.set_cons_succ]) (hCont (wq2.heap.size, A1, c1, A2, c2) _ ⟨(bt (bt (bt (bt (Below.refl w5.heap.size w5).drew hb0) hb1) hb2) (below1 _ (.cells #[.int .i64 0, .slice none 0 0] 24))), zbox_new _, ((bt (bt (bt (Below.refl w5.heap.size w5).drew hb0) hb1) hb2)).size⟩)
              · skip
                refine value_ (w1 := ?_) (v := ?_) (by rfl) rfl ?_ ?_
                rotate_left 2
                · go_simp
                  constructor
                  · rfl
                  · rfl
                refine hK.out _ _ ⟨pw_cell_below (below1 _ _) (hHeld.1), pw_cell_below (below1 _ _) (hHeld.2.1), pw_cell_below (below1 _ _) (hHeld.2.2.1), pw_cell_below (below1 _ _) (hHeld.2.2.2.1), pw_cell_below (below1 _ _) (hHeld.2.2.2.2)⟩ (fun hHeld => ?_)
                clear hK K
                refine norm_ (a' := ?_) ?_ ?_
                rotate_left
                · show Act.put _ (some 7) _ = _
                  simp only [Act.put, List.setIfInBounds_toArray, List.set_cons_zero, List.set_cons_succ, i64_w, i32_w]
                  rfl
                refine one_ (i := 8) (N := some 33) #[true, true, true, true, true, true, true, true, true, false, false, false, true, false, false] rfl rfl (one_of HT_.out (by kernel_rfl)) (by decide) (fun K hK => ?_)
                refine goes_ Try.func16 (by kernel_rfl) rfl #[.agg #[.int .i64 s, .slice A1 (lower l s).length c1], .agg #[.int .i64 s, .int .i64 n2, .slice A2 k.length c2]] (by rfl) rfl rfl (by simp only [List.map_toArray, List.map_cons, List.map_nil]; first | rfl | (refine congrArg List.toArray (congr (congrArg List.cons ?_) (congrArg (fun z => [z]) ?_)) <;> first | rfl | go_simp)) ?_
                with_reducible refine (apply_cnt (lower l s) k s n2 A1 A2 c1 c2 _ Rb HQ h2).mono ?_
                rintro e wq2 ⟨rfl, hb2⟩
                refine ⟨_, rfl, ?_⟩
                refine hK.out _ _ ⟨pw_cell_below hb2 (hHeld.1), pw_cell_below hb2 (hHeld.2.1), pw_cell_below hb2 (hHeld.2.2.1), pw_cell_below hb2 (hHeld.2.2.2.1), pw_cell_below hb2 (hHeld.2.2.2.2)⟩ (fun hHeld => ?_)
                clear hK K
                refine norm_ (a' := ?_) ?_ ?_
                rotate_left
                · show Act.put _ (some 33) _ = _
                  simp only [Act.put, List.setIfInBounds_toArray, List.set_cons_zero, List.set_cons_succ, i64_w, i32_w]
                  rfl
                refine pure_ (i := 9) (N := some 24) (v := ?_) (a' := ?_) #[true, true, true, true, true, true, true, true, true, true, false, false, true, false, false] rfl rfl (any_of HT_.out (by kernel_rfl)) (fun _ _ _ h => h) (Or.inl ⟨by rfl, ?_⟩) ?_ ?_
                rotate_left
                · intro w'
                  go_simp
                  with_reducible rfl
                rotate_left
                · simp only [Act.put, List.setIfInBounds_toArray, List.set_cons_zero, List.set_cons_succ, i64_w, i32_w]
                  rfl
                refine pure_ (i := 10) (N := some 34) (v := ?_) (a' := ?_) #[true, true, true, true, true, true, true, true, true, true, true, false, true, false, false] rfl rfl (any_of HT_.out (by kernel_rfl)) (fun _ _ _ h => h) (Or.inl ⟨by rfl, ?_⟩) ?_ ?_
                rotate_left
                · intro w'
                  go_simp
                  with_reducible rfl
                rotate_left
                · simp only [Act.put, List.setIfInBounds_toArray, List.set_cons_zero, List.set_cons_succ, i64_w, i32_w]
                  rfl
                refine pure_ (i := 11) (N := some 35) (v := ?_) (a' := ?_) #[true, true, true, true, true, true, true, true, true, true, true, true, true, false, false] rfl rfl (any_of HT_.out (by kernel_rfl)) (fun _ _ _ h => h) (Or.inl ⟨by rfl, ?_⟩) ?_ ?_
                rotate_left
                · intro w'
                  go_simp
                  with_reducible rfl
                rotate_left
                · simp only [Act.put, List.setIfInBounds_toArray, List.set_cons_zero, List.set_cons_succ, i64_w, i32_w]
                  rfl
                exact norm_ (by simp only [putAll, Act.put, List.setIfInBounds_toArray, List.set_cons_zero, List.set_cons_succ]) (hCont (wq1.heap.size, A1, c1, A2, c2) _ ⟨(bt (bt (bt (bt (Below.refl w5.heap.size w5).drew hb0) hb1) (below1 _ (.cells #[.int .i64 0, .slice none 0 0] 24))) hb2), (zbox_new _).below hb2, ((bt (bt (Below.refl w5.heap.size w5).drew hb0) hb1)).size⟩)
            · skip
              refine value_ (w1 := ?_) (v := ?_) (by rfl) rfl ?_ ?_
              rotate_left 2
              · go_simp
                constructor
                · rfl
                · rfl
              refine hK.out _ _ ⟨pw_cell_below (below1 _ _) (hHeld.1), pw_cell_below (below1 _ _) (hHeld.2.1), pw_cell_below (below1 _ _) (hHeld.2.2.1), pw_cell_below (below1 _ _) (hHeld.2.2.2.1), pw_cell_below (below1 _ _) (hHeld.2.2.2.2)⟩ (fun hHeld => ?_)
              clear hK K
              refine norm_ (a' := ?_) ?_ ?_
              rotate_left
              · show Act.put _ (some 7) _ = _
                simp only [Act.put, List.setIfInBounds_toArray, List.set_cons_zero, List.set_cons_succ, i64_w, i32_w]
                rfl
              refine one_ (i := 6) (N := some 31) #[true, true, true, true, true, true, true, false, false, false, false, false, true, false, false] rfl rfl (one_of HT_.out (by kernel_rfl)) (by decide) (fun K hK => ?_)
              refine goes_ Try.func10 (by kernel_rfl) rfl #[.agg #[.int .i64 n2, .slice B k.length d]] (by rfl) rfl rfl (by simp only [List.map_toArray, List.map_cons, List.map_nil]; first | rfl | (refine congrArg List.toArray (congr (congrArg List.cons ?_) (congrArg (fun z => [z]) ?_)) <;> first | rfl | go_simp)) ?_
              with_reducible refine (copy_C k n2 B d _ (Kd.C_below C_k.out (bt (bt (bt N_w3.out N_w4.out) N_w5.out) (bt (bt (Below.refl w5.heap.size w5).drew hb0) (below1 _ (.cells #[.int .i64 0, .slice none 0 0] 24))))) hm HQ).mono ?_
              rintro e wq1 ⟨A2, c2, rfl, hc2, hC2, hb1⟩
              refine ⟨_, rfl, ?_⟩
              refine hK.out _ _ ⟨pw_cell_below hb1 (hHeld.1), pw_cell_below hb1 (hHeld.2.1), pw_cell_below hb1 (hHeld.2.2.1), pw_cell_below hb1 (hHeld.2.2.2.1), pw_cell_below hb1 (hHeld.2.2.2.2)⟩ (fun hHeld => ?_)
              clear hK K
              refine norm_ (a' := ?_) ?_ ?_
              rotate_left
              · show Act.put _ (some 31) _ = _
                simp only [Act.put, List.setIfInBounds_toArray, List.set_cons_zero, List.set_cons_succ, i64_w, i32_w]
                rfl
              refine pure_ (i := 7) (N := some 32) (v := ?_) (a' := ?_) #[true, true, true, true, true, true, true, true, false, false, false, false, true, false, false] rfl rfl (any_of HT_.out (by kernel_rfl)) (fun _ _ _ h => h) (Or.inl ⟨by rfl, ?_⟩) ?_ ?_
              rotate_left
              · intro w'
                go_simp
                with_reducible rfl
              rotate_left
              · simp only [Act.put, List.setIfInBounds_toArray, List.set_cons_zero, List.set_cons_succ, i64_w, i32_w]
                rfl
              refine one_ (i := 8) (N := some 33) #[true, true, true, true, true, true, true, true, true, false, false, false, true, false, false] rfl rfl (one_of HT_.out (by kernel_rfl)) (by decide) (fun K hK => ?_)
              refine goes_ Try.func16 (by kernel_rfl) rfl #[.agg #[.int .i64 s, .slice A1 (lower l s).length c1], .agg #[.int .i64 s, .int .i64 n2, .slice A2 k.length c2]] (by rfl) rfl rfl (by simp only [List.map_toArray, List.map_cons, List.map_nil]; first | rfl | (refine congrArg List.toArray (congr (congrArg List.cons ?_) (congrArg (fun z => [z]) ?_)) <;> first | rfl | go_simp)) ?_
              with_reducible refine (apply_cnt (lower l s) k s n2 A1 A2 c1 c2 _ Rb HQ h2).mono ?_
              rintro e wq2 ⟨rfl, hb2⟩
              refine ⟨_, rfl, ?_⟩
              refine hK.out _ _ ⟨pw_cell_below hb2 (hHeld.1), pw_cell_below hb2 (hHeld.2.1), pw_cell_below hb2 (hHeld.2.2.1), pw_cell_below hb2 (hHeld.2.2.2.1), pw_cell_below hb2 (hHeld.2.2.2.2)⟩ (fun hHeld => ?_)
              clear hK K
              refine norm_ (a' := ?_) ?_ ?_
              rotate_left
              · show Act.put _ (some 33) _ = _
                simp only [Act.put, List.setIfInBounds_toArray, List.set_cons_zero, List.set_cons_succ, i64_w, i32_w]
                rfl
              refine pure_ (i := 9) (N := some 24) (v := ?_) (a' := ?_) #[true, true, true, true, true, true, true, true, true, true, false, false, true, false, false] rfl rfl (any_of HT_.out (by kernel_rfl)) (fun _ _ _ h => h) (Or.inl ⟨by rfl, ?_⟩) ?_ ?_
              rotate_left
              · intro w'
                go_simp
                with_reducible rfl
              rotate_left
              · simp only [Act.put, List.setIfInBounds_toArray, List.set_cons_zero, List.set_cons_succ, i64_w, i32_w]
                rfl
              refine pure_ (i := 10) (N := some 34) (v := ?_) (a' := ?_) #[true, true, true, true, true, true, true, true, true, true, true, false, true, false, false] rfl rfl (any_of HT_.out (by kernel_rfl)) (fun _ _ _ h => h) (Or.inl ⟨by rfl, ?_⟩) ?_ ?_
              rotate_left
              · intro w'
                go_simp
                with_reducible rfl
              rotate_left
              · simp only [Act.put, List.setIfInBounds_toArray, List.set_cons_zero, List.set_cons_succ, i64_w, i32_w]
                rfl
              refine pure_ (i := 11) (N := some 35) (v := ?_) (a' := ?_) #[true, true, true, true, true, true, true, true, true, true, true, true, true, false, false] rfl rfl (any_of HT_.out (by kernel_rfl)) (fun _ _ _ h => h) (Or.inl ⟨by rfl, ?_⟩) ?_ ?_
              rotate_left
              · intro w'
                go_simp
                with_reducible rfl
              rotate_left
              · simp only [Act.put, List.setIfInBounds_toArray, List.set_cons_zero, List.set_cons_succ, i64_w, i32_w]
                rfl
              exact norm_ (by simp only [putAll, Act.put, List.setIfInBounds_toArray, List.set_cons_zero, List.set_cons_succ]) (hCont (wq0.heap.size, A1, c1, A2, c2) _ ⟨(bt (bt (bt (bt (Below.refl w5.heap.size w5).drew hb0) (below1 _ (.cells #[.int .i64 0, .slice none 0 0] 24))) hb1) hb2), ((zbox_new _).below hb1).below hb2, ((bt (Below.refl w5.heap.size w5).drew hb0)).size⟩)
          · skip
            refine value_ (w1 := ?_) (v := ?_) (by rfl) rfl ?_ ?_
            rotate_left 2
            · go_simp
              constructor
              · rfl
              · rfl
            refine hK.out _ _ ⟨pw_cell_below (below1 _ _) (hHeld.1), pw_cell_below (below1 _ _) (hHeld.2.1), pw_cell_below (below1 _ _) (hHeld.2.2.1), pw_cell_below (below1 _ _) (hHeld.2.2.2.1), pw_cell_below (below1 _ _) (hHeld.2.2.2.2)⟩ (fun hHeld => ?_)
            clear hK K
            refine norm_ (a' := ?_) ?_ ?_
            rotate_left
            · show Act.put _ (some 7) _ = _
              simp only [Act.put, List.setIfInBounds_toArray, List.set_cons_zero, List.set_cons_succ, i64_w, i32_w]
              rfl
            refine one_ (i := 1) (N := some 26) #[true, true, true, true, true, true, false, false, false, false, false, false, true, false, false] rfl rfl (one_of HT_.out (by kernel_rfl)) (by decide) (fun K hK => ?_)
            refine goes_ Try.func10 (by kernel_rfl) rfl #[.agg #[.int .i64 s, .slice A_b (lower l s).length c_b]] (by rfl) rfl rfl (by simp only [List.map_toArray, List.map_cons, List.map_nil]; first | rfl | (refine congrArg List.toArray (congr (congrArg List.cons ?_) (congrArg (fun z => [z]) ?_)) <;> first | rfl | go_simp)) ?_
            with_reducible refine (copy_C (lower l s) s A_b c_b _ (Kd.C_below C_b.out (bt (bt N_w4.out N_w5.out) (below1 w5 (.cells #[.int .i64 0, .slice none 0 0] 24)).drew)) hl_b Rb).mono ?_
            rintro e wq0 ⟨A1, c1, rfl, hc1, hC1, hb0⟩
            refine ⟨_, rfl, ?_⟩
            refine hK.out _ _ ⟨pw_cell_below hb0 (hHeld.1), pw_cell_below hb0 (hHeld.2.1), pw_cell_below hb0 (hHeld.2.2.1), pw_cell_below hb0 (hHeld.2.2.2.1), pw_cell_below hb0 (hHeld.2.2.2.2)⟩ (fun hHeld => ?_)
            clear hK K
            refine norm_ (a' := ?_) ?_ ?_
            rotate_left
            · show Act.put _ (some 26) _ = _
              simp only [Act.put, List.setIfInBounds_toArray, List.set_cons_zero, List.set_cons_succ, i64_w, i32_w]
              rfl
            refine one_ (i := 6) (N := some 31) #[true, true, true, true, true, true, true, false, false, false, false, false, true, false, false] rfl rfl (one_of HT_.out (by kernel_rfl)) (by decide) (fun K hK => ?_)
            refine goes_ Try.func10 (by kernel_rfl) rfl #[.agg #[.int .i64 n2, .slice B k.length d]] (by rfl) rfl rfl (by simp only [List.map_toArray, List.map_cons, List.map_nil]; first | rfl | (refine congrArg List.toArray (congr (congrArg List.cons ?_) (congrArg (fun z => [z]) ?_)) <;> first | rfl | go_simp)) ?_
            with_reducible refine (copy_C k n2 B d _ (Kd.C_below C_k.out (bt (bt (bt N_w3.out N_w4.out) N_w5.out) (bt (below1 w5 (.cells #[.int .i64 0, .slice none 0 0] 24)).drew hb0))) hm HQ).mono ?_
            rintro e wq1 ⟨A2, c2, rfl, hc2, hC2, hb1⟩
            refine ⟨_, rfl, ?_⟩
            refine hK.out _ _ ⟨pw_cell_below hb1 (hHeld.1), pw_cell_below hb1 (hHeld.2.1), pw_cell_below hb1 (hHeld.2.2.1), pw_cell_below hb1 (hHeld.2.2.2.1), pw_cell_below hb1 (hHeld.2.2.2.2)⟩ (fun hHeld => ?_)
            clear hK K
            refine norm_ (a' := ?_) ?_ ?_
            rotate_left
            · show Act.put _ (some 31) _ = _
              simp only [Act.put, List.setIfInBounds_toArray, List.set_cons_zero, List.set_cons_succ, i64_w, i32_w]
              rfl
            refine pure_ (i := 7) (N := some 32) (v := ?_) (a' := ?_) #[true, true, true, true, true, true, true, true, false, false, false, false, true, false, false] rfl rfl (any_of HT_.out (by kernel_rfl)) (fun _ _ _ h => h) (Or.inl ⟨by rfl, ?_⟩) ?_ ?_
            rotate_left
            · intro w'
              go_simp
              with_reducible rfl
            rotate_left
            · simp only [Act.put, List.setIfInBounds_toArray, List.set_cons_zero, List.set_cons_succ, i64_w, i32_w]
              rfl
            refine one_ (i := 8) (N := some 33) #[true, true, true, true, true, true, true, true, true, false, false, false, true, false, false] rfl rfl (one_of HT_.out (by kernel_rfl)) (by decide) (fun K hK => ?_)
            refine goes_ Try.func16 (by kernel_rfl) rfl #[.agg #[.int .i64 s, .slice A1 (lower l s).length c1], .agg #[.int .i64 s, .int .i64 n2, .slice A2 k.length c2]] (by rfl) rfl rfl (by simp only [List.map_toArray, List.map_cons, List.map_nil]; first | rfl | (refine congrArg List.toArray (congr (congrArg List.cons ?_) (congrArg (fun z => [z]) ?_)) <;> first | rfl | go_simp)) ?_
            with_reducible refine (apply_cnt (lower l s) k s n2 A1 A2 c1 c2 _ Rb HQ h2).mono ?_
            rintro e wq2 ⟨rfl, hb2⟩
            refine ⟨_, rfl, ?_⟩
            refine hK.out _ _ ⟨pw_cell_below hb2 (hHeld.1), pw_cell_below hb2 (hHeld.2.1), pw_cell_below hb2 (hHeld.2.2.1), pw_cell_below hb2 (hHeld.2.2.2.1), pw_cell_below hb2 (hHeld.2.2.2.2)⟩ (fun hHeld => ?_)
            clear hK K
            refine norm_ (a' := ?_) ?_ ?_
            rotate_left
            · show Act.put _ (some 33) _ = _
              simp only [Act.put, List.setIfInBounds_toArray, List.set_cons_zero, List.set_cons_succ, i64_w, i32_w]
              rfl
            refine pure_ (i := 9) (N := some 24) (v := ?_) (a' := ?_) #[true, true, true, true, true, true, true, true, true, true, false, false, true, false, false] rfl rfl (any_of HT_.out (by kernel_rfl)) (fun _ _ _ h => h) (Or.inl ⟨by rfl, ?_⟩) ?_ ?_
            rotate_left
            · intro w'
              go_simp
              with_reducible rfl
            rotate_left
            · simp only [Act.put, List.setIfInBounds_toArray, List.set_cons_zero, List.set_cons_succ, i64_w, i32_w]
              rfl
            refine pure_ (i := 10) (N := some 34) (v := ?_) (a' := ?_) #[true, true, true, true, true, true, true, true, true, true, true, false, true, false, false] rfl rfl (any_of HT_.out (by kernel_rfl)) (fun _ _ _ h => h) (Or.inl ⟨by rfl, ?_⟩) ?_ ?_
            rotate_left
            · intro w'
              go_simp
              with_reducible rfl
            rotate_left
            · simp only [Act.put, List.setIfInBounds_toArray, List.set_cons_zero, List.set_cons_succ, i64_w, i32_w]
              rfl
            refine pure_ (i := 11) (N := some 35) (v := ?_) (a' := ?_) #[true, true, true, true, true, true, true, true, true, true, true, true, true, false, false] rfl rfl (any_of HT_.out (by kernel_rfl)) (fun _ _ _ h => h) (Or.inl ⟨by rfl, ?_⟩) ?_ ?_
            rotate_left
            · intro w'
              go_simp
              with_reducible rfl
            rotate_left
            · simp only [Act.put, List.setIfInBounds_toArray, List.set_cons_zero, List.set_cons_succ, i64_w, i32_w]
              rfl
            exact norm_ (by simp only [putAll, Act.put, List.setIfInBounds_toArray, List.set_cons_zero, List.set_cons_succ]) (hCont (w5.heap.size, A1, c1, A2, c2) _ ⟨(bt (bt (bt (below1 w5 (.cells #[.int .i64 0, .slice none 0 0] 24)).drew hb0) hb1) hb2), ((((zbox_new w5).below (Below.refl _ _).drew).below hb0).below hb1).below hb2, Nat.le_refl _⟩)
        rintro ⟨g7, A1, c1, A2, c2⟩ wx7 ⟨hF1, hF2, hF3⟩
        have k0 := hF2.c0
        have k1 := hF2.c1
        have kf := hF2.fr
        refine norm_ (a' := ?_) ?_ ?_
        rotate_left
        · simp only [putAll, Act.put, List.setIfInBounds_toArray, List.set_cons_zero, List.set_cons_succ]
          rfl
        refine last_ (i := 13) (N := none) #[true, true, true, true, true, true, true, true, true, true, true, true, true, true, false] rfl rfl (one_of HT_.out (by kernel_rfl)) (by decide) (fun K hK => ?_)
        refine skip_ (w1 := ?_) (by rfl) rfl ?_ ?_
        rotate_left
        · go_simp
          rfl
        refine hK.out _ _ ?_
        clear hK K
        refine pure_ (i := 14) (N := some 8) (v := ?_) (a' := ?_) #[true, true, true, true, true, true, true, true, true, true, true, true, true, true, true] rfl rfl (any_of HT_.out (by kernel_rfl)) (fun _ _ _ h => h) (Or.inl ⟨by rfl, ?_⟩) ?_ ?_
        rotate_left
        · intro w'
          go_simp
          with_reducible rfl
        rotate_left
        · simp only [Act.put, List.setIfInBounds_toArray, List.set_cons_zero, List.set_cons_succ, i64_w, i32_w]
          rfl
        refine done_ (done_of HT_.out (by kernel_rfl)) ?_
        obtain ⟨hs1, hs2, hs3⟩ := stored0 hF1 hF2 hF3
        generalize ((wx7.setCell ⟨g7, 0, none⟩ (.int .i64 0)).setCell ⟨g7, 1, none⟩ (.slice none 0 0)) = w8 at *
        clear hF1 hF2 hF3 k0 k1 kf
        have N_w8 := Lib.hid hs1
        have B_x_0 := Lib.hid hs2
        have B_x_1 := Lib.hid hs3
        clear hs1 hs2 hs3
        have V_v_0 : World.cell? w8 ⟨w.heap.size, 0, none⟩ = some (.int .i64 s) := pw_cell_below (bt (bt N_w4.out N_w5.out) N_w8.out) B_v_0.out
        have V_v_1 : World.cell? w8 ⟨w.heap.size, 1, none⟩ = some (.slice A_b (lower l s).length c_b) := pw_cell_below (bt (bt N_w4.out N_w5.out) N_w8.out) B_v_1.out
        have V_d_0 : World.cell? w8 ⟨w.heap.size + 1, 0, none⟩ = some (.int .i64 s) := pw_cell_below (bt (bt N_w4.out N_w5.out) N_w8.out) B_d_0.out
        have V_d_1 : World.cell? w8 ⟨w.heap.size + 1, 1, none⟩ = some (.int .i64 n2) := pw_cell_below (bt (bt N_w4.out N_w5.out) N_w8.out) B_d_1.out
        have V_d_2 : World.cell? w8 ⟨w.heap.size + 1, 2, none⟩ = some (.slice B k.length d) := pw_cell_below (bt (bt N_w4.out N_w5.out) N_w8.out) B_d_2.out
        go_wp2
        go_ret
        exact ⟨rfl, (bt (bt (bt N_w3.out N_w4.out) N_w5.out) N_w8.out)⟩
      have t10 : decide ((256 : Int) < ((lower l s).length : Int) + (k.length : Int)) = false := decide_eq_false (by omega)
      by_cases h3 : wrap64 (wrap64 (bsize (lower l s)) + wrap64 (bsize k)) ≤ 65536
      case neg =>
        have t12 : decide ((65536 : Int) < wrap64 (wrap64 (bsize (lower l s)) + wrap64 (bsize k))) = true := decide_eq_true (Int.not_le.1 h3)
        refine start_ (n := 15) (S := fun w' => w'.cell? ⟨w.heap.size, 0, none⟩ = some (.int .i64 s) ∧ w'.cell? ⟨w.heap.size, 1, none⟩ = some (.slice A_b (lower l s).length c_b) ∧ w'.cell? ⟨w.heap.size + 1, 0, none⟩ = some (.int .i64 s) ∧ w'.cell? ⟨w.heap.size + 1, 1, none⟩ = some (.int .i64 n2) ∧ w'.cell? ⟨w.heap.size + 1, 2, none⟩ = some (.slice B k.length d)) (ds := [13]) #[false, false, false, false, false, false, false, false, false, false, false, false, false, false, false] (by kernel_rfl) rfl rfl ⟨pw_cell_below (bt (bt N_w4.out N_w5.out) (Below.refl _ _).drew) B_v_0.out, pw_cell_below (bt (bt N_w4.out N_w5.out) (Below.refl _ _).drew) B_v_1.out, pw_cell_below (bt (bt N_w4.out N_w5.out) (Below.refl _ _).drew) B_d_0.out, pw_cell_below (bt (bt N_w4.out N_w5.out) (Below.refl _ _).drew) B_d_1.out, pw_cell_below (bt (bt N_w4.out N_w5.out) (Below.refl _ _).drew) B_d_2.out⟩ (fun hHeld => ?_)
        refine with_tabW fL.tab7 fL.bits7 (fun HT_ HW_ => ?_)
        refine pure_ (i := 2) (N := some 27) (v := ?_) (a' := ?_) #[false, false, true, false, false, false, false, false, false, false, false, false, false, false, false] rfl rfl (any_of HT_.out (by kernel_rfl)) (fun _ _ _ h => h) (Or.inl ⟨by rfl, ?_⟩) ?_ ?_
        rotate_left
        · intro w'
          go_simp
          with_reducible rfl
        rotate_left
        · simp only [Act.put, List.setIfInBounds_toArray, List.set_cons_zero, List.set_cons_succ, i64_w, i32_w]
          rfl
        refine pure_ (i := 4) (N := some 29) (v := ?_) (a' := ?_) #[false, false, true, false, true, false, false, false, false, false, false, false, false, false, false] rfl rfl (any_of HT_.out (by kernel_rfl)) (fun _ _ _ h => h) (Or.inl ⟨by rfl, ?_⟩) ?_ ?_
        rotate_left
        · intro w'
          go_simp
          with_reducible rfl
        rotate_left
        · simp only [Act.put, List.setIfInBounds_toArray, List.set_cons_zero, List.set_cons_succ, i64_w, i32_w]
          rfl
        refine take_ (i := 0) (N := some 25) (v := ?_) (a' := ?_) #[true, false, true, false, true, false, false, false, false, false, false, false, false, false, false] rfl rfl (take_ofW HT_.out HW_.out (by kernel_rfl)) (fun _ _ _ h => h) (Or.inl ⟨by rfl, ?_⟩) hHeld ?_ ?_
        rotate_left
        · rintro w' ⟨s0, s1, s2, s3, s4⟩
          go_simp
          with_reducible rfl
        rotate_left
        · simp only [Act.put, List.setIfInBounds_toArray, List.set_cons_zero, List.set_cons_succ, i64_w, i32_w]
          rfl
        refine take_ (i := 3) (N := some 28) (v := ?_) (a' := ?_) #[true, false, true, true, true, false, false, false, false, false, false, false, false, false, false] rfl rfl (take_ofW HT_.out HW_.out (by kernel_rfl)) (fun _ _ _ h => h) (Or.inl ⟨by rfl, ?_⟩) hHeld ?_ ?_
        rotate_left
        · rintro w' ⟨s0, s1, s2, s3, s4⟩
          go_simp
          with_reducible rfl
        rotate_left
        · simp only [Act.put, List.setIfInBounds_toArray, List.set_cons_zero, List.set_cons_succ, i64_w, i32_w]
          rfl
        refine take_ (i := 5) (N := some 30) (v := ?_) (a' := ?_) #[true, false, true, true, true, true, false, false, false, false, false, false, false, false, false] rfl rfl (take_ofW HT_.out HW_.out (by kernel_rfl)) (fun _ _ _ h => h) (Or.inl ⟨by rfl, ?_⟩) hHeld ?_ ?_
        rotate_left
        · rintro w' ⟨s0, s1, s2, s3, s4⟩
          go_simp
          with_reducible rfl
        rotate_left
        · simp only [Act.put, List.setIfInBounds_toArray, List.set_cons_zero, List.set_cons_succ, i64_w, i32_w]
          rfl
        refine join_ (σ := Nat × Option Addr × Nat × Option Addr × Nat) 2 #[true, true, true, true, true, true, true, true, true, true, true, true, true, false, false] (fun sg => [(26, .agg #[.int .i64 s, .slice sg.2.1 (lower l s).length sg.2.2.1]), (31, .agg #[.int .i64 n2, .slice sg.2.2.2.1 k.length sg.2.2.2.2]), (32, .agg #[.int .i64 s, .int .i64 n2, .slice sg.2.2.2.1 k.length sg.2.2.2.2]), (33, .tuple #[.agg #[.int .i64 0, .slice none 0 0], .int .i64 76]), (24, .tuple #[.agg #[.int .i64 0, .slice none 0 0], .int .i64 76]), (34, .agg #[.int .i64 0, .slice none 0 0]), (35, .int .i64 76), (7, .pointer (some ⟨sg.1, 0, none⟩))]) (fun sg w' => (Below w5.heap.size w5 w' ∧ Zbox w' sg.1 ∧ w5.heap.size ≤ sg.1)) ?_ ?_
        rotate_left
        · intro hCont
          refine two_ (i := 1) (j := 12) (Ni := some 26) (Nj := some 7) #[true, true, true, true, true, true, false, false, false, false, false, false, false, false, false] #[true, false, true, true, true, true, false, false, false, false, false, false, true, false, false] rfl rfl rfl rfl (two_of HT_.out (by kernel_rfl)) (by decide) (by decide) (fun K hK => ?_) (fun K hK => ?_)
          · skip
            refine goes_ Try.func10 (by kernel_rfl) rfl #[.agg #[.int .i64 s, .slice A_b (lower l s).length c_b]] (by rfl) rfl rfl (by simp only [List.map_toArray, List.map_cons, List.map_nil]; first | rfl | (refine congrArg List.toArray (congr (congrArg List.cons ?_) (congrArg (fun z => [z]) ?_)) <;> first | rfl | go_simp)) ?_
            with_reducible refine (copy_C (lower l s) s A_b c_b _ (Kd.C_below C_b.out (bt (bt N_w4.out N_w5.out) (Below.refl w5.heap.size w5).drew)) hl_b Rb).mono ?_
            rintro e wq0 ⟨A1, c1, rfl, hc1, hC1, hb0⟩
            refine ⟨_, rfl, ?_⟩
            refine hK.out _ _ ⟨pw_cell_below hb0 (hHeld.1), pw_cell_below hb0 (hHeld.2.1), pw_cell_below hb0 (hHeld.2.2.1), pw_cell_below hb0 (hHeld.2.2.2.1), pw_cell_below hb0 (hHeld.2.2.2.2)⟩ (fun hHeld => ?_)
            clear hK K
            refine norm_ (a' := ?_) ?_ ?_
            rotate_left
            · show Act.put _ (some 26) _ = _
              simp only [Act.put, List.setIfInBounds_toArray, List.set_cons_zero, List.set_cons_succ, i64_w, i32_w]
              rfl
            refine two_ (i := 6) (j := 12) (Ni := some 31) (Nj := some 7) #[true, true, true, true, true, true, true, false, false, false, false, false, false, false, false] #[true, true, true, true, true, true, false, false, false, false, false, false, true, false, false] rfl rfl rfl rfl (two_of HT_.out (by kernel_rfl)) (by decide) (by decide) (fun K hK => ?_) (fun K hK => ?_)
            · skip
              refine goes_ Try.func10 (by kernel_rfl) rfl #[.agg #[.int .i64 n2, .slice B k.length d]] (by rfl) rfl rfl (by simp only [List.map_toArray, List.map_cons, List.map_nil]; first | rfl | (refine congrArg List.toArray (congr (congrArg List.cons ?_) (congrArg (fun z => [z]) ?_)) <;> first | rfl | go_simp)) ?_
              with_reducible refine (copy_C k n2 B d _ (Kd.C_below C_k.out (bt (bt (bt N_w3.out N_w4.out) N_w5.out) (bt (Below.refl w5.heap.size w5).drew hb0))) hm HQ).mono ?_
              rintro e wq1 ⟨A2, c2, rfl, hc2, hC2, hb1⟩
              refine ⟨_, rfl, ?_⟩
              refine hK.out _ _ ⟨pw_cell_below hb1 (hHeld.1), pw_cell_below hb1 (hHeld.2.1), pw_cell_below hb1 (hHeld.2.2.1), pw_cell_below hb1 (hHeld.2.2.2.1), pw_cell_below hb1 (hHeld.2.2.2.2)⟩ (fun hHeld => ?_)
              clear hK K
              refine norm_ (a' := ?_) ?_ ?_
              rotate_left
              · show Act.put _ (some 31) _ = _
                simp only [Act.put, List.setIfInBounds_toArray, List.set_cons_zero, List.set_cons_succ, i64_w, i32_w]
                rfl
              refine pure_ (i := 7) (N := some 32) (v := ?_) (a' := ?_) #[true, true, true, true, true, true, true, true, false, false, false, false, false, false, false] rfl rfl (any_of HT_.out (by kernel_rfl)) (fun _ _ _ h => h) (Or.inl ⟨by rfl, ?_⟩) ?_ ?_
              rotate_left
              · intro w'
                go_simp
                with_reducible rfl
              rotate_left
              · simp only [Act.put, List.setIfInBounds_toArray, List.set_cons_zero, List.set_cons_succ, i64_w, i32_w]
                rfl
              refine two_ (i := 8) (j := 12) (Ni := some 33) (Nj := some 7) #[true, true, true, true, true, true, true, true, true, false, false, false, false, false, false] #[true, true, true, true, true, true, true, true, false, false, false, false, true, false, false] rfl rfl rfl rfl (two_of HT_.out (by kernel_rfl)) (by decide) (by decide) (fun K hK => ?_) (fun K hK => ?_)
              · skip
                refine goes_ Try.func16 (by kernel_rfl) rfl #[.agg #[.int .i64 s, .slice A1 (lower l s).length c1], .agg #[.int .i64 s, .int .i64 n2, .slice A2 k.length c2]] (by rfl) rfl rfl (by simp only [List.map_toArray, List.map_cons, List.map_nil]; first | rfl | (refine congrArg List.toArray (congr (congrArg List.cons ?_) (congrArg (fun z => [z]) ?_)) <;> first | rfl | go_simp)) ?_
                with_reducible refine (apply_byt (lower l s) k s n2 A1 A2 c1 c2 _ (Kd.C_below hC1 hb1) hc1 Rb (Kd.C_below hC2 (Below.refl _ _)) hc2 HQ h2 h3).mono ?_
                rintro e wq2 ⟨rfl, hb2⟩
                refine ⟨_, rfl, ?_⟩
                refine hK.out _ _ ⟨pw_cell_below hb2 (hHeld.1), pw_cell_below hb2 (hHeld.2.1), pw_cell_below hb2 (hHeld.2.2.1), pw_cell_below hb2 (hHeld.2.2.2.1), pw_cell_below hb2 (hHeld.2.2.2.2)⟩ (fun hHeld => ?_)
                clear hK K
                refine norm_ (a' := ?_) ?_ ?_
                rotate_left
                · show Act.put _ (some 33) _ = _
                  simp only [Act.put, List.setIfInBounds_toArray, List.set_cons_zero, List.set_cons_succ, i64_w, i32_w]
                  rfl
                refine pure_ (i := 9) (N := some 24) (v := ?_) (a' := ?_) #[true, true, true, true, true, true, true, true, true, true, false, false, false, false, false] rfl rfl (any_of HT_.out (by kernel_rfl)) (fun _ _ _ h => h) (Or.inl ⟨by rfl, ?_⟩) ?_ ?_
                rotate_left
                · intro w'
                  go_simp
                  with_reducible rfl
                rotate_left
                · simp only [Act.put, List.setIfInBounds_toArray, List.set_cons_zero, List.set_cons_succ, i64_w, i32_w]
                  rfl
                refine pure_ (i := 10) (N := some 34) (v := ?_) (a' := ?_) #[true, true, true, true, true, true, true, true, true, true, true, false, false, false, false] rfl rfl (any_of HT_.out (by kernel_rfl)) (fun _ _ _ h => h) (Or.inl ⟨by rfl, ?_⟩) ?_ ?_
                rotate_left
                · intro w'
                  go_simp
                  with_reducible rfl
                rotate_left
                · simp only [Act.put, List.setIfInBounds_toArray, List.set_cons_zero, List.set_cons_succ, i64_w, i32_w]
                  rfl
                refine pure_ (i := 11) (N := some 35) (v := ?_) (a' := ?_) #[true, true, true, true, true, true, true, true, true, true, true, true, false, false, false] rfl rfl (any_of HT_.out (by kernel_rfl)) (fun _ _ _ h => h) (Or.inl ⟨by rfl, ?_⟩) ?_ ?_
                rotate_left
                · intro w'
                  go_simp
                  with_reducible rfl
                rotate_left
                · simp only [Act.put, List.setIfInBounds_toArray, List.set_cons_zero, List.set_cons_succ, i64_w, i32_w]
                  rfl
                refine one_ (i := 12) (N := some 7) #[true, true, true, true, true, true, true, true, true, true, true, true, true, false, false] rfl rfl (one_of HT_.out (by kernel_rfl)) (by decide) (fun K hK => ?_)
                refine value_ (w1 := ?_) (v := ?_) (by rfl) rfl ?_ ?_
                rotate_left 2
                · go_simp
                  constructor
                  · rfl
                  · rfl
                refine hK.out _ _ ⟨pw_cell_below (below1 _ _) (hHeld.1), pw_cell_below (below1 _ _) (hHeld.2.1), pw_cell_below (below1 _ _) (hHeld.2.2.1), pw_cell_below (below1 _ _) (hHeld.2.2.2.1), pw_cell_below (below1 _ _) (hHeld.2.2.2.2)⟩ (fun hHeld => ?_)
                clear hK K
                refine norm_ (a' := ?_) ?_ ?_
                rotate_left
                · show Act.put _ (some 7) _ = _
                  simp only [Act.put, List.setIfInBounds_toArray, List.set_cons_zero, List.set_cons_succ, i64_w, i32_w]
                  rfl
                exact norm_ (by simp only [putAll, Act.put, List.setIfInBounds_toArray, List.set_cons_zero, List.set_cons_succ]) (hCont (wq2.heap.size, A1, c1, A2, c2) _ ⟨(bt (bt (bt (bt (Below.refl w5.heap.size w5).drew hb0) hb1) hb2) (below1 _ (.cells #[.int .i64 0, .slice none 0 0] 24))), zbox_new _, ((bt (bt (bt (Below.refl w5.heap.size w5).drew hb0) hb1) hb2)).size⟩)
              · skip
                refine value_ (w1 := ?_) (v := ?_) (by rfl) rfl ?_ ?_
                rotate_left 2
                · go_simp
                  constructor
                  · rfl
                  · rfl
                refine hK.out _ _ ⟨pw_cell_below (below1 _ _) (hHeld.1), pw_cell_below (below1 _ _) (hHeld.2.1), pw_cell_below (below1 _ _) (hHeld.2.2.1), pw_cell_below (below1 _ _) (hHeld.2.2.2.1), pw_cell_below (below1 _ _) (hHeld.2.2.2.2)⟩ (fun hHeld => ?_)
                clear hK K
                refine norm_ (a' := ?_) ?_ ?_
                rotate_left
                · show Act.put _ (some 7) _ = _
                  simp only [Act.put, List.setIfInBounds_toArray, List.set_cons_zero, List.set_cons_succ, i64_w, i32_w]
                  rfl
                refine one_ (i := 8) (N := some 33) #[true, true, true, true, true, true, true, true, true, false, false, false, true, false, false] rfl rfl (one_of HT_.out (by kernel_rfl)) (by decide) (fun K hK => ?_)
                refine goes_ Try.func16 (by kernel_rfl) rfl #[.agg #[.int .i64 s, .slice A1 (lower l s).length c1], .agg #[.int .i64 s, .int .i64 n2, .slice A2 k.length c2]] (by rfl) rfl rfl (by simp only [List.map_toArray, List.map_cons, List.map_nil]; first | rfl | (refine congrArg List.toArray (congr (congrArg List.cons ?_) (congrArg (fun z => [z]) ?_)) <;> first | rfl | go_simp)) ?_
                with_reducible refine (apply_byt (lower l s) k s n2 A1 A2 c1 c2 _ (Kd.C_below hC1 (bt hb1 (below1 _ (.cells #[.int .i64 0, .slice none 0 0] 24)))) hc1 Rb (Kd.C_below hC2 (below1 _ (.cells #[.int .i64 0, .slice none 0 0] 24))) hc2 HQ h2 h3).mono ?_
                rintro e wq2 ⟨rfl, hb2⟩
                refine ⟨_, rfl, ?_⟩
                refine hK.out _ _ ⟨pw_cell_below hb2 (hHeld.1), pw_cell_below hb2 (hHeld.2.1), pw_cell_below hb2 (hHeld.2.2.1), pw_cell_below hb2 (hHeld.2.2.2.1), pw_cell_below hb2 (hHeld.2.2.2.2)⟩ (fun hHeld => ?_)
                clear hK K
                refine norm_ (a' := ?_) ?_ ?_
                rotate_left
                · show Act.put _ (some 33) _ = _
                  simp only [Act.put, List.setIfInBounds_toArray, List.set_cons_zero, List.set_cons_succ, i64_w, i32_w]
                  rfl
                refine pure_ (i := 9) (N := some 24) (v := ?_) (a' := ?_) #[true, true, true, true, true, true, true, true, true, true, false, false, true, false, false] rfl rfl (any_of HT_.out (by kernel_rfl)) (fun _ _ _ h => h) (Or.inl ⟨by rfl, ?_⟩) ?_ ?_
                rotate_left
                · intro w'
                  go_simp
                  with_reducible rfl
                rotate_left
                · simp only [Act.put, List.setIfInBounds_toArray, List.set_cons_zero, List.set_cons_succ, i64_w, i32_w]
                  rfl
                refine pure_ (i := 10) (N := some 34) (v := ?_) (a' := ?_) #[true, true, true, true, true, true, true, true, true, true, true, false, true, false, false] rfl rfl (any_of HT_.out (by kernel_rfl)) (fun _ _ _ h => h) (Or.inl ⟨by rfl, ?_⟩) ?_ ?_
                rotate_left
                · intro w'
                  go_simp
                  with_reducible rfl
                rotate_left
                · simp only [Act.put, List.setIfInBounds_toArray, List.set_cons_zero, List.set_cons_succ, i64_w, i32_w]
                  rfl
                refine pure_ (i := 11) (N := some 35) (v := ?_) (a' := ?_) #[true, true, true, true, true, true, true, true, true, true, true, true, true, false, false] rfl rfl (any_of HT_.out (by kernel_rfl)) (fun _ _ _ h => h) (Or.inl ⟨by rfl, ?_⟩) ?_ ?_
                rotate_left
                · intro w'
                  go_simp
                  with_reducible rfl
                rotate_left
                · simp only [Act.put, List.setIfInBounds_toArray, List.set_cons_zero, List.set_cons_succ, i64_w, i32_w]
                  rfl
                exact norm_ (by simp only [putAll, Act.put, List.setIfInBounds_toArray, List.set_cons_zero, List.set_cons_succ]) (hCont (wq1.heap.size, A1, c1, A2, c2) _ ⟨(bt (bt (bt (bt (Below.refl w5.heap.size w5).drew hb0) hb1) (below1 _ (.cells #[.int .i64 0, .slice none 0 0] 24))) hb2), (zbox_new _).below hb2, ((bt (bt (Below.refl w5.heap.size w5).drew hb0) hb1)).size⟩)
            · skip
              refine value_ (w1 := ?_) (v := ?_) (by rfl) rfl ?_ ?_
              rotate_left 2
              · go_simp
                constructor
                · rfl
                · rfl
              refine hK.out _ _ ⟨pw_cell_below (below1 _ _) (hHeld.1), pw_cell_below (below1 _ _) (hHeld.2.1), pw_cell_below (below1 _ _) (hHeld.2.2.1), pw_cell_below (below1 _ _) (hHeld.2.2.2.1), pw_cell_below (below1 _ _) (hHeld.2.2.2.2)⟩ (fun hHeld => ?_)
              clear hK K
              refine norm_ (a' := ?_) ?_ ?_
              rotate_left
              · show Act.put _ (some 7) _ = _
                simp only [Act.put, List.setIfInBounds_toArray, List.set_cons_zero, List.set_cons_succ, i64_w, i32_w]
                rfl
              refine one_ (i := 6) (N := some 31) #[true, true, true, true, true, true, true, false, false, false, false, false, true, false, false] rfl rfl (one_of HT_.out (by kernel_rfl)) (by decide) (fun K hK => ?_)
              refine goes_ Try.func10 (by kernel_rfl) rfl #[.agg #[.int .i64 n2, .slice B k.length d]] (by rfl) rfl rfl (by simp only [List.map_toArray, List.map_cons, List.map_nil]; first | rfl | (refine congrArg List.toArray (congr (congrArg List.cons ?_) (congrArg (fun z => [z]) ?_)) <;> first | rfl | go_simp)) ?_
              with_reducible refine (copy_C k n2 B d _ (Kd.C_below C_k.out (bt (bt (bt N_w3.out N_w4.out) N_w5.out) (bt (bt (Below.refl w5.heap.size w5).drew hb0) (below1 _ (.cells #[.int .i64 0, .slice none 0 0] 24))))) hm HQ).mono ?_
              rintro e wq1 ⟨A2, c2, rfl, hc2, hC2, hb1⟩
              refine ⟨_, rfl, ?_⟩
              refine hK.out _ _ ⟨pw_cell_below hb1 (hHeld.1), pw_cell_below hb1 (hHeld.2.1), pw_cell_below hb1 (hHeld.2.2.1), pw_cell_below hb1 (hHeld.2.2.2.1), pw_cell_below hb1 (hHeld.2.2.2.2)⟩ (fun hHeld => ?_)
              clear hK K
              refine norm_ (a' := ?_) ?_ ?_
              rotate_left
              · show Act.put _ (some 31) _ = _
                simp only [Act.put, List.setIfInBounds_toArray, List.set_cons_zero, List.set_cons_succ, i64_w, i32_w]
                rfl
              refine pure_ (i := 7) (N := some 32) (v := ?_) (a' := ?_) #[true, true, true, true, true, true, true, true, false, false, false, false, true, false, false] rfl rfl (any_of HT_.out (by kernel_rfl)) (fun _ _ _ h => h) (Or.inl ⟨by rfl, ?_⟩) ?_ ?_
              rotate_left
              · intro w'
                go_simp
                with_reducible rfl
              rotate_left
              · simp only [Act.put, List.setIfInBounds_toArray, List.set_cons_zero, List.set_cons_succ, i64_w, i32_w]
                rfl
              refine one_ (i := 8) (N := some 33) #[true, true, true, true, true, true, true, true, true, false, false, false, true, false, false] rfl rfl (one_of HT_.out (by kernel_rfl)) (by decide) (fun K hK => ?_)
              refine goes_ Try.func16 (by kernel_rfl) rfl #[.agg #[.int .i64 s, .slice A1 (lower l s).length c1], .agg #[.int .i64 s, .int .i64 n2, .slice A2 k.length c2]] (by rfl) rfl rfl (by simp only [List.map_toArray, List.map_cons, List.map_nil]; first | rfl | (refine congrArg List.toArray (congr (congrArg List.cons ?_) (congrArg (fun z => [z]) ?_)) <;> first | rfl | go_simp)) ?_
              with_reducible refine (apply_byt (lower l s) k s n2 A1 A2 c1 c2 _ (Kd.C_below hC1 (bt (below1 _ (.cells #[.int .i64 0, .slice none 0 0] 24)) hb1)) hc1 Rb (Kd.C_below hC2 (Below.refl _ _)) hc2 HQ h2 h3).mono ?_
              rintro e wq2 ⟨rfl, hb2⟩
              refine ⟨_, rfl, ?_⟩
              refine hK.out _ _ ⟨pw_cell_below hb2 (hHeld.1), pw_cell_below hb2 (hHeld.2.1), pw_cell_below hb2 (hHeld.2.2.1), pw_cell_below hb2 (hHeld.2.2.2.1), pw_cell_below hb2 (hHeld.2.2.2.2)⟩ (fun hHeld => ?_)
              clear hK K
              refine norm_ (a' := ?_) ?_ ?_
              rotate_left
              · show Act.put _ (some 33) _ = _
                simp only [Act.put, List.setIfInBounds_toArray, List.set_cons_zero, List.set_cons_succ, i64_w, i32_w]
                rfl
              refine pure_ (i := 9) (N := some 24) (v := ?_) (a' := ?_) #[true, true, true, true, true, true, true, true, true, true, false, false, true, false, false] rfl rfl (any_of HT_.out (by kernel_rfl)) (fun _ _ _ h => h) (Or.inl ⟨by rfl, ?_⟩) ?_ ?_
              rotate_left
              · intro w'
                go_simp
                with_reducible rfl
              rotate_left
              · simp only [Act.put, List.setIfInBounds_toArray, List.set_cons_zero, List.set_cons_succ, i64_w, i32_w]
                rfl
              refine pure_ (i := 10) (N := some 34) (v := ?_) (a' := ?_) #[true, true, true, true, true, true, true, true, true, true, true, false, true, false, false] rfl rfl (any_of HT_.out (by kernel_rfl)) (fun _ _ _ h => h) (Or.inl ⟨by rfl, ?_⟩) ?_ ?_
              rotate_left
              · intro w'
                go_simp
                with_reducible rfl
              rotate_left
              · simp only [Act.put, List.setIfInBounds_toArray, List.set_cons_zero, List.set_cons_succ, i64_w, i32_w]
                rfl
              refine pure_ (i := 11) (N := some 35) (v := ?_) (a' := ?_) #[true, true, true, true, true, true, true, true, true, true, true, true, true, false, false] rfl rfl (any_of HT_.out (by kernel_rfl)) (fun _ _ _ h => h) (Or.inl ⟨by rfl, ?_⟩) ?_ ?_
              rotate_left
              · intro w'
                go_simp
                with_reducible rfl
              rotate_left
              · simp only [Act.put, List.setIfInBounds_toArray, List.set_cons_zero, List.set_cons_succ, i64_w, i32_w]
                rfl
              exact norm_ (by simp only [putAll, Act.put, List.setIfInBounds_toArray, List.set_cons_zero, List.set_cons_succ]) (hCont (wq0.heap.size, A1, c1, A2, c2) _ ⟨(bt (bt (bt (bt (Below.refl w5.heap.size w5).drew hb0) (below1 _ (.cells #[.int .i64 0, .slice none 0 0] 24))) hb1) hb2), ((zbox_new _).below hb1).below hb2, ((bt (Below.refl w5.heap.size w5).drew hb0)).size⟩)
          · skip
            refine value_ (w1 := ?_) (v := ?_) (by rfl) rfl ?_ ?_
            rotate_left 2
            · go_simp
              constructor
              · rfl
              · rfl
            refine hK.out _ _ ⟨pw_cell_below (below1 _ _) (hHeld.1), pw_cell_below (below1 _ _) (hHeld.2.1), pw_cell_below (below1 _ _) (hHeld.2.2.1), pw_cell_below (below1 _ _) (hHeld.2.2.2.1), pw_cell_below (below1 _ _) (hHeld.2.2.2.2)⟩ (fun hHeld => ?_)
            clear hK K
            refine norm_ (a' := ?_) ?_ ?_
            rotate_left
            · show Act.put _ (some 7) _ = _
              simp only [Act.put, List.setIfInBounds_toArray, List.set_cons_zero, List.set_cons_succ, i64_w, i32_w]
              rfl
            refine one_ (i := 1) (N := some 26) #[true, true, true, true, true, true, false, false, false, false, false, false, true, false, false] rfl rfl (one_of HT_.out (by kernel_rfl)) (by decide) (fun K hK => ?_)
            refine goes_ Try.func10 (by kernel_rfl) rfl #[.agg #[.int .i64 s, .slice A_b (lower l s).length c_b]] (by rfl) rfl rfl (by simp only [List.map_toArray, List.map_cons, List.map_nil]; first | rfl | (refine congrArg List.toArray (congr (congrArg List.cons ?_) (congrArg (fun z => [z]) ?_)) <;> first | rfl | go_simp)) ?_
            with_reducible refine (copy_C (lower l s) s A_b c_b _ (Kd.C_below C_b.out (bt (bt N_w4.out N_w5.out) (below1 w5 (.cells #[.int .i64 0, .slice none 0 0] 24)).drew)) hl_b Rb).mono ?_
            rintro e wq0 ⟨A1, c1, rfl, hc1, hC1, hb0⟩
            refine ⟨_, rfl, ?_⟩
            refine hK.out _ _ ⟨pw_cell_below hb0 (hHeld.1), pw_cell_below hb0 (hHeld.2.1), pw_cell_below hb0 (hHeld.2.2.1), pw_cell_below hb0 (hHeld.2.2.2.1), pw_cell_below hb0 (hHeld.2.2.2.2)⟩ (fun hHeld => ?_)
            clear hK K
            refine norm_ (a' := ?_) ?_ ?_
            rotate_left
            · show Act.put _ (some 26) _ = _
              simp only [Act.put, List.setIfInBounds_toArray, List.set_cons_zero, List.set_cons_succ, i64_w, i32_w]
              rfl
            refine one_ (i := 6) (N := some 31) #[true, true, true, true, true, true, true, false, false, false, false, false, true, false, false] rfl rfl (one_of HT_.out (by kernel_rfl)) (by decide) (fun K hK => ?_)
            refine goes_ Try.func10 (by kernel_rfl) rfl #[.agg #[.int .i64 n2, .slice B k.length d]] (by rfl) rfl rfl (by simp only [List.map_toArray, List.map_cons, List.map_nil]; first | rfl | (refine congrArg List.toArray (congr (congrArg List.cons ?_) (congrArg (fun z => [z]) ?_)) <;> first | rfl | go_simp)) ?_
            with_reducible refine (copy_C k n2 B d _ (Kd.C_below C_k.out (bt (bt (bt N_w3.out N_w4.out) N_w5.out) (bt (below1 w5 (.cells #[.int .i64 0, .slice none 0 0] 24)).drew hb0))) hm HQ).mono ?_
            rintro e wq1 ⟨A2, c2, rfl, hc2, hC2, hb1⟩
            refine ⟨_, rfl, ?_⟩
            refine hK.out _ _ ⟨pw_cell_below hb1 (hHeld.1), pw_cell_below hb1 (hHeld.2.1), pw_cell_below hb1 (hHeld.2.2.1), pw_cell_below hb1 (hHeld.2.2.2.1), pw_cell_below hb1 (hHeld.2.2.2.2)⟩ (fun hHeld => ?_)
            clear hK K
            refine norm_ (a' := ?_) ?_ ?_
            rotate_left
            · show Act.put _ (some 31) _ = _
              simp only [Act.put, List.setIfInBounds_toArray, List.set_cons_zero, List.set_cons_succ, i64_w, i32_w]
              rfl
            refine pure_ (i := 7) (N := some 32) (v := ?_) (a' := ?_) #[true, true, true, true, true, true, true, true, false, false, false, false, true, false, false] rfl rfl (any_of HT_.out (by kernel_rfl)) (fun _ _ _ h => h) (Or.inl ⟨by rfl, ?_⟩) ?_ ?_
            rotate_left
            · intro w'
              go_simp
              with_reducible rfl
            rotate_left
            · simp only [Act.put, List.setIfInBounds_toArray, List.set_cons_zero, List.set_cons_succ, i64_w, i32_w]
              rfl
            refine one_ (i := 8) (N := some 33) #[true, true, true, true, true, true, true, true, true, false, false, false, true, false, false] rfl rfl (one_of HT_.out (by kernel_rfl)) (by decide) (fun K hK => ?_)
            refine goes_ Try.func16 (by kernel_rfl) rfl #[.agg #[.int .i64 s, .slice A1 (lower l s).length c1], .agg #[.int .i64 s, .int .i64 n2, .slice A2 k.length c2]] (by rfl) rfl rfl (by simp only [List.map_toArray, List.map_cons, List.map_nil]; first | rfl | (refine congrArg List.toArray (congr (congrArg List.cons ?_) (congrArg (fun z => [z]) ?_)) <;> first | rfl | go_simp)) ?_
            with_reducible refine (apply_byt (lower l s) k s n2 A1 A2 c1 c2 _ (Kd.C_below hC1 hb1) hc1 Rb (Kd.C_below hC2 (Below.refl _ _)) hc2 HQ h2 h3).mono ?_
            rintro e wq2 ⟨rfl, hb2⟩
            refine ⟨_, rfl, ?_⟩
            refine hK.out _ _ ⟨pw_cell_below hb2 (hHeld.1), pw_cell_below hb2 (hHeld.2.1), pw_cell_below hb2 (hHeld.2.2.1), pw_cell_below hb2 (hHeld.2.2.2.1), pw_cell_below hb2 (hHeld.2.2.2.2)⟩ (fun hHeld => ?_)
            clear hK K
            refine norm_ (a' := ?_) ?_ ?_
            rotate_left
            · show Act.put _ (some 33) _ = _
              simp only [Act.put, List.setIfInBounds_toArray, List.set_cons_zero, List.set_cons_succ, i64_w, i32_w]
              rfl
            refine pure_ (i := 9) (N := some 24) (v := ?_) (a' := ?_) #[true, true, true, true, true, true, true, true, true, true, false, false, true, false, false] rfl rfl (any_of HT_.out (by kernel_rfl)) (fun _ _ _ h => h) (Or.inl ⟨by rfl, ?_⟩) ?_ ?_
            rotate_left
            · intro w'
              go_simp
              with_reducible rfl
            rotate_left
            · simp only [Act.put, List.setIfInBounds_toArray, List.set_cons_zero, List.set_cons_succ, i64_w, i32_w]
              rfl
            refine pure_ (i := 10) (N := some 34) (v := ?_) (a' := ?_) #[true, true, true, true, true, true, true, true, true, true, true, false, true, false, false] rfl rfl (any_of HT_.out (by kernel_rfl)) (fun _ _ _ h => h) (Or.inl ⟨by rfl, ?_⟩) ?_ ?_
            rotate_left
            · intro w'
              go_simp
              with_reducible rfl
            rotate_left
            · simp only [Act.put, List.setIfInBounds_toArray, List.set_cons_zero, List.set_cons_succ, i64_w, i32_w]
              rfl
            refine pure_ (i := 11) (N := some 35) (v := ?_) (a' := ?_) #[true, true, true, true, true, true, true, true, true, true, true, true, true, false, false] rfl rfl (any_of HT_.out (by kernel_rfl)) (fun _ _ _ h => h) (Or.inl ⟨by rfl, ?_⟩) ?_ ?_
            rotate_left
            · intro w'
              go_simp
              with_reducible rfl
            rotate_left
            · simp only [Act.put, List.setIfInBounds_toArray, List.set_cons_zero, List.set_cons_succ, i64_w, i32_w]
              rfl
            exact norm_ (by simp only [putAll, Act.put, List.setIfInBounds_toArray, List.set_cons_zero, List.set_cons_succ]) (hCont (w5.heap.size, A1, c1, A2, c2) _ ⟨(bt (bt (bt (below1 w5 (.cells #[.int .i64 0, .slice none 0 0] 24)).drew hb0) hb1) hb2), ((((zbox_new w5).below (Below.refl _ _).drew).below hb0).below hb1).below hb2, Nat.le_refl _⟩)
        rintro ⟨g7, A1, c1, A2, c2⟩ wx7 ⟨hF1, hF2, hF3⟩
        have k0 := hF2.c0
        have k1 := hF2.c1
        have kf := hF2.fr
        refine norm_ (a' := ?_) ?_ ?_
        rotate_left
        · simp only [putAll, Act.put, List.setIfInBounds_toArray, List.set_cons_zero, List.set_cons_succ]
          rfl
        refine last_ (i := 13) (N := none) #[true, true, true, true, true, true, true, true, true, true, true, true, true, true, false] rfl rfl (one_of HT_.out (by kernel_rfl)) (by decide) (fun K hK => ?_)
        refine skip_ (w1 := ?_) (by rfl) rfl ?_ ?_
        rotate_left
        · go_simp
          rfl
        refine hK.out _ _ ?_
        clear hK K
        refine pure_ (i := 14) (N := some 8) (v := ?_) (a' := ?_) #[true, true, true, true, true, true, true, true, true, true, true, true, true, true, true] rfl rfl (any_of HT_.out (by kernel_rfl)) (fun _ _ _ h => h) (Or.inl ⟨by rfl, ?_⟩) ?_ ?_
        rotate_left
        · intro w'
          go_simp
          with_reducible rfl
        rotate_left
        · simp only [Act.put, List.setIfInBounds_toArray, List.set_cons_zero, List.set_cons_succ, i64_w, i32_w]
          rfl
        refine done_ (done_of HT_.out (by kernel_rfl)) ?_
        obtain ⟨hs1, hs2, hs3⟩ := stored0 hF1 hF2 hF3
        generalize ((wx7.setCell ⟨g7, 0, none⟩ (.int .i64 0)).setCell ⟨g7, 1, none⟩ (.slice none 0 0)) = w8 at *
        clear hF1 hF2 hF3 k0 k1 kf
        have N_w8 := Lib.hid hs1
        have B_x_0 := Lib.hid hs2
        have B_x_1 := Lib.hid hs3
        clear hs1 hs2 hs3
        have V_v_0 : World.cell? w8 ⟨w.heap.size, 0, none⟩ = some (.int .i64 s) := pw_cell_below (bt (bt N_w4.out N_w5.out) N_w8.out) B_v_0.out
        have V_v_1 : World.cell? w8 ⟨w.heap.size, 1, none⟩ = some (.slice A_b (lower l s).length c_b) := pw_cell_below (bt (bt N_w4.out N_w5.out) N_w8.out) B_v_1.out
        have V_d_0 : World.cell? w8 ⟨w.heap.size + 1, 0, none⟩ = some (.int .i64 s) := pw_cell_below (bt (bt N_w4.out N_w5.out) N_w8.out) B_d_0.out
        have V_d_1 : World.cell? w8 ⟨w.heap.size + 1, 1, none⟩ = some (.int .i64 n2) := pw_cell_below (bt (bt N_w4.out N_w5.out) N_w8.out) B_d_1.out
        have V_d_2 : World.cell? w8 ⟨w.heap.size + 1, 2, none⟩ = some (.slice B k.length d) := pw_cell_below (bt (bt N_w4.out N_w5.out) N_w8.out) B_d_2.out
        go_upto_region 12 with fail
        clear V_v_0 V_v_1 V_d_0 V_d_1 V_d_2
        refine start_ (n := 7) (S := fun w' => w'.cell? ⟨w.heap.size, 0, none⟩ = some (.int .i64 s) ∧ w'.cell? ⟨w.heap.size, 1, none⟩ = some (.slice A_b (lower l s).length c_b) ∧ w'.cell? ⟨w.heap.size + 1, 0, none⟩ = some (.int .i64 s) ∧ w'.cell? ⟨w.heap.size + 1, 1, none⟩ = some (.int .i64 n2) ∧ w'.cell? ⟨w.heap.size + 1, 2, none⟩ = some (.slice B k.length d)) (ds := []) #[false, false, false, false, false, false, false] (by kernel_rfl) rfl rfl ⟨pw_cell_below (bt (bt (bt N_w4.out N_w5.out) N_w8.out) (Below.refl _ _).drew) B_v_0.out, pw_cell_below (bt (bt (bt N_w4.out N_w5.out) N_w8.out) (Below.refl _ _).drew) B_v_1.out, pw_cell_below (bt (bt (bt N_w4.out N_w5.out) N_w8.out) (Below.refl _ _).drew) B_d_0.out, pw_cell_below (bt (bt (bt N_w4.out N_w5.out) N_w8.out) (Below.refl _ _).drew) B_d_1.out, pw_cell_below (bt (bt (bt N_w4.out N_w5.out) N_w8.out) (Below.refl _ _).drew) B_d_2.out⟩ (fun hHeld => ?_)
        refine with_tabW fL.tab12 fL.bits12 (fun HT_ HW_ => ?_)
        refine pure_ (i := 2) (N := some 61) (v := ?_) (a' := ?_) #[false, false, true, false, false, false, false] rfl rfl (any_of HT_.out (by kernel_rfl)) (fun _ _ _ h => h) (Or.inl ⟨by rfl, ?_⟩) ?_ ?_
        rotate_left
        · intro w'
          go_simp
          with_reducible rfl
        rotate_left
        · simp only [Act.put, List.setIfInBounds_toArray, List.set_cons_zero, List.set_cons_succ, i64_w, i32_w]
          rfl
        refine take_ (i := 0) (N := some 59) (v := ?_) (a' := ?_) #[true, false, true, false, false, false, false] rfl rfl (take_ofW HT_.out HW_.out (by kernel_rfl)) (fun _ _ _ h => h) (Or.inl ⟨by rfl, ?_⟩) hHeld ?_ ?_
        rotate_left
        · rintro w' ⟨s0, s1, s2, s3, s4⟩
          go_simp
          with_reducible rfl
        rotate_left
        · simp only [Act.put, List.setIfInBounds_toArray, List.set_cons_zero, List.set_cons_succ, i64_w, i32_w]
          rfl
        refine take_ (i := 3) (N := some 62) (v := ?_) (a' := ?_) #[true, false, true, true, false, false, false] rfl rfl (take_ofW HT_.out HW_.out (by kernel_rfl)) (fun _ _ _ h => h) (Or.inl ⟨by rfl, ?_⟩) hHeld ?_ ?_
        rotate_left
        · rintro w' ⟨s0, s1, s2, s3, s4⟩
          go_simp
          with_reducible rfl
        rotate_left
        · simp only [Act.put, List.setIfInBounds_toArray, List.set_cons_zero, List.set_cons_succ, i64_w, i32_w]
          rfl
        refine one_ (i := 1) (N := some 60) #[true, true, true, true, false, false, false] rfl rfl (one_of HT_.out (by kernel_rfl)) (by decide) (fun K hK => ?_)
        refine goes_ Try.func21 (by kernel_rfl) rfl #[.agg #[.int .i64 s, .slice A_b (lower l s).length c_b]] (by rfl) rfl rfl (by simp only [List.map_toArray, List.map_cons, List.map_nil]; first | rfl | (refine congrArg List.toArray (congr (congrArg List.cons ?_) (congrArg (fun z => [z]) ?_)) <;> first | rfl | go_simp)) ?_
        with_reducible refine (refBytes_any (lower l s) s A_b c_b _ (Kd.C_below C_b.out (bt (bt (bt N_w4.out N_w5.out) N_w8.out) (Below.refl w8.heap.size w8).drew)) hl_b Rb.fits).mono ?_
        rintro e wy0 ⟨rfl, hy0⟩
        refine ⟨_, rfl, ?_⟩
        refine hK.out _ _ ⟨pw_cell_below hy0 (hHeld.1), pw_cell_below hy0 (hHeld.2.1), pw_cell_below hy0 (hHeld.2.2.1), pw_cell_below hy0 (hHeld.2.2.2.1), pw_cell_below hy0 (hHeld.2.2.2.2)⟩ (fun hHeld => ?_)
        clear hK K
        refine norm_ (a' := ?_) ?_ ?_
        rotate_left
        · show Act.put _ (some 60) _ = _
          simp only [Act.put, List.setIfInBounds_toArray, List.set_cons_zero, List.set_cons_succ, i64_w, i32_w]
          rfl
        refine one_ (i := 4) (N := some 63) #[true, true, true, true, true, false, false] rfl rfl (one_of HT_.out (by kernel_rfl)) (by decide) (fun K hK => ?_)
        refine goes_ Try.func21 (by kernel_rfl) rfl #[.agg #[.int .i64 n2, .slice B k.length d]] (by rfl) rfl rfl (by simp only [List.map_toArray, List.map_cons, List.map_nil]; first | rfl | (refine congrArg List.toArray (congr (congrArg List.cons ?_) (congrArg (fun z => [z]) ?_)) <;> first | rfl | go_simp)) ?_
        with_reducible refine (refBytes_any k n2 B d _ (Kd.C_below C_k.out (bt (bt (bt (bt N_w3.out N_w4.out) N_w5.out) N_w8.out) (bt (Below.refl w8.heap.size w8).drew hy0))) hm HQ.fits).mono ?_
        rintro e wy1 ⟨rfl, hy1⟩
        refine ⟨_, rfl, ?_⟩
        refine hK.out _ _ ⟨pw_cell_below hy1 (hHeld.1), pw_cell_below hy1 (hHeld.2.1), pw_cell_below hy1 (hHeld.2.2.1), pw_cell_below hy1 (hHeld.2.2.2.1), pw_cell_below hy1 (hHeld.2.2.2.2)⟩ (fun hHeld => ?_)
        clear hK K
        refine norm_ (a' := ?_) ?_ ?_
        rotate_left
        · show Act.put _ (some 63) _ = _
          simp only [Act.put, List.setIfInBounds_toArray, List.set_cons_zero, List.set_cons_succ, i64_w, i32_w]
          rfl
        refine pure_ (i := 5) (N := some 64) (v := ?_) (a' := ?_) #[true, true, true, true, true, true, false] rfl rfl (any_of HT_.out (by kernel_rfl)) (fun _ _ _ h => h) (Or.inl ⟨by rfl, ?_⟩) ?_ ?_
        rotate_left
        · intro w'
          go_simp
          with_reducible rfl
        rotate_left
        · simp only [Act.put, List.setIfInBounds_toArray, List.set_cons_zero, List.set_cons_succ, i64_w, i32_w]
          rfl
        refine pure_ (i := 6) (N := some 65) (v := ?_) (a' := ?_) #[true, true, true, true, true, true, true] rfl rfl (any_of HT_.out (by kernel_rfl)) (fun _ _ _ h => h) (Or.inl ⟨by rfl, ?_⟩) ?_ ?_
        rotate_left
        · intro w'
          go_simp
          with_reducible rfl
        rotate_left
        · simp only [Act.put, List.setIfInBounds_toArray, List.set_cons_zero, List.set_cons_succ, i64_w, i32_w]
          rfl
        refine done_ (done_of HT_.out (by kernel_rfl)) ?_
        have N_wy1 := Lib.hid (bt (bt (Below.refl w8.heap.size w8).drew hy0) hy1)
        clear hy0 hy1 hHeld
        go_wp2
        go_ret
        exact ⟨rfl, (bt (bt (bt (bt N_w3.out N_w4.out) N_w5.out) N_w8.out) N_wy1.out)⟩
      have t12 : decide ((65536 : Int) < wrap64 (wrap64 (bsize (lower l s)) + wrap64 (bsize k))) = false := decide_eq_false (Int.not_lt.2 h3)
      have la := lay_all rt dt.rt
      have lr := lay_right rt dt h2 h3
      have ll := lay_lower rt dt
      have li := lay_in (lower l s) k
      have RX := room_mrg Rb HQ h2
      have tl : (((mrg (lower l s) k).length : Int) != ((lower l s).length : Int) + (k.length : Int)) = false := by rw [len_mrg]; simp
      refine start_ (n := 15) (S := fun w' => w'.cell? ⟨w.heap.size, 0, none⟩ = some (.int .i64 s) ∧ w'.cell? ⟨w.heap.size, 1, none⟩ = some (.slice A_b (lower l s).length c_b) ∧ w'.cell? ⟨w.heap.size + 1, 0, none⟩ = some (.int .i64 s) ∧ w'.cell? ⟨w.heap.size + 1, 1, none⟩ = some (.int .i64 n2) ∧ w'.cell? ⟨w.heap.size + 1, 2, none⟩ = some (.slice B k.length d)) (ds := [13]) #[false, false, false, false, false, false, false, false, false, false, false, false, false, false, false] (by kernel_rfl) rfl rfl ⟨pw_cell_below (bt (bt N_w4.out N_w5.out) (Below.refl _ _).drew) B_v_0.out, pw_cell_below (bt (bt N_w4.out N_w5.out) (Below.refl _ _).drew) B_v_1.out, pw_cell_below (bt (bt N_w4.out N_w5.out) (Below.refl _ _).drew) B_d_0.out, pw_cell_below (bt (bt N_w4.out N_w5.out) (Below.refl _ _).drew) B_d_1.out, pw_cell_below (bt (bt N_w4.out N_w5.out) (Below.refl _ _).drew) B_d_2.out⟩ (fun hHeld => ?_)
      refine with_tabW fL.tab7 fL.bits7 (fun HT_ HW_ => ?_)
      refine pure_ (i := 2) (N := some 27) (v := ?_) (a' := ?_) #[false, false, true, false, false, false, false, false, false, false, false, false, false, false, false] rfl rfl (any_of HT_.out (by kernel_rfl)) (fun _ _ _ h => h) (Or.inl ⟨by rfl, ?_⟩) ?_ ?_
      rotate_left
      · intro w'
        go_simp
        with_reducible rfl
      rotate_left
      · simp only [Act.put, List.setIfInBounds_toArray, List.set_cons_zero, List.set_cons_succ, i64_w, i32_w]
        rfl
      refine pure_ (i := 4) (N := some 29) (v := ?_) (a' := ?_) #[false, false, true, false, true, false, false, false, false, false, false, false, false, false, false] rfl rfl (any_of HT_.out (by kernel_rfl)) (fun _ _ _ h => h) (Or.inl ⟨by rfl, ?_⟩) ?_ ?_
      rotate_left
      · intro w'
        go_simp
        with_reducible rfl
      rotate_left
      · simp only [Act.put, List.setIfInBounds_toArray, List.set_cons_zero, List.set_cons_succ, i64_w, i32_w]
        rfl
      refine take_ (i := 0) (N := some 25) (v := ?_) (a' := ?_) #[true, false, true, false, true, false, false, false, false, false, false, false, false, false, false] rfl rfl (take_ofW HT_.out HW_.out (by kernel_rfl)) (fun _ _ _ h => h) (Or.inl ⟨by rfl, ?_⟩) hHeld ?_ ?_
      rotate_left
      · rintro w' ⟨s0, s1, s2, s3, s4⟩
        go_simp
        with_reducible rfl
      rotate_left
      · simp only [Act.put, List.setIfInBounds_toArray, List.set_cons_zero, List.set_cons_succ, i64_w, i32_w]
        rfl
      refine take_ (i := 3) (N := some 28) (v := ?_) (a' := ?_) #[true, false, true, true, true, false, false, false, false, false, false, false, false, false, false] rfl rfl (take_ofW HT_.out HW_.out (by kernel_rfl)) (fun _ _ _ h => h) (Or.inl ⟨by rfl, ?_⟩) hHeld ?_ ?_
      rotate_left
      · rintro w' ⟨s0, s1, s2, s3, s4⟩
        go_simp
        with_reducible rfl
      rotate_left
      · simp only [Act.put, List.setIfInBounds_toArray, List.set_cons_zero, List.set_cons_succ, i64_w, i32_w]
        rfl
      refine take_ (i := 5) (N := some 30) (v := ?_) (a' := ?_) #[true, false, true, true, true, true, false, false, false, false, false, false, false, false, false] rfl rfl (take_ofW HT_.out HW_.out (by kernel_rfl)) (fun _ _ _ h => h) (Or.inl ⟨by rfl, ?_⟩) hHeld ?_ ?_
      rotate_left
      · rintro w' ⟨s0, s1, s2, s3, s4⟩
        go_simp
        with_reducible rfl
      rotate_left
      · simp only [Act.put, List.setIfInBounds_toArray, List.set_cons_zero, List.set_cons_succ, i64_w, i32_w]
        rfl
      refine join_ (σ := Nat × Option Addr × Nat × Option Addr × Nat × Option Addr × Nat) 2 #[true, true, true, true, true, true, true, true, true, true, true, true, true, false, false] (fun sg => [(26, .agg #[.int .i64 s, .slice sg.2.1 (lower l s).length sg.2.2.1]), (31, .agg #[.int .i64 n2, .slice sg.2.2.2.1 k.length sg.2.2.2.2.1]), (32, .agg #[.int .i64 s, .int .i64 n2, .slice sg.2.2.2.1 k.length sg.2.2.2.2.1]), (33, .tuple #[.agg #[.int .i64 n2, .slice sg.2.2.2.2.2.1 (mrg (lower l s) k).length sg.2.2.2.2.2.2], .int .i64 0]), (24, .tuple #[.agg #[.int .i64 n2, .slice sg.2.2.2.2.2.1 (mrg (lower l s) k).length sg.2.2.2.2.2.2], .int .i64 0]), (34, .agg #[.int .i64 n2, .slice sg.2.2.2.2.2.1 (mrg (lower l s) k).length sg.2.2.2.2.2.2]), (35, .int .i64 0), (7, .pointer (some ⟨sg.1, 0, none⟩))]) (fun sg w' => (Below w5.heap.size w5 w' ∧ Zbox w' sg.1 ∧ w5.heap.size ≤ sg.1 ∧ kVn.R 48 w' w5.heap.size (fun k => k ≠ sg.1) (.slice sg.2.2.2.2.2.1 (mrg (lower l s) k).length sg.2.2.2.2.2.2) (mrg (lower l s) k))) ?_ ?_
      rotate_left
      · intro hCont
        refine two_ (i := 1) (j := 12) (Ni := some 26) (Nj := some 7) #[true, true, true, true, true, true, false, false, false, false, false, false, false, false, false] #[true, false, true, true, true, true, false, false, false, false, false, false, true, false, false] rfl rfl rfl rfl (two_of HT_.out (by kernel_rfl)) (by decide) (by decide) (fun K hK => ?_) (fun K hK => ?_)
        · skip
          refine goes_ Try.func10 (by kernel_rfl) rfl #[.agg #[.int .i64 s, .slice A_b (lower l s).length c_b]] (by rfl) rfl rfl (by simp only [List.map_toArray, List.map_cons, List.map_nil]; first | rfl | (refine congrArg List.toArray (congr (congrArg List.cons ?_) (congrArg (fun z => [z]) ?_)) <;> first | rfl | go_simp)) ?_
          with_reducible refine (copy_C (lower l s) s A_b c_b _ (Kd.C_below C_b.out (bt (bt N_w4.out N_w5.out) (Below.refl w5.heap.size w5).drew)) hl_b Rb).mono ?_
          rintro e wq0 ⟨A1, c1, rfl, hc1, hC1, hb0⟩
          refine ⟨_, rfl, ?_⟩
          refine hK.out _ _ ⟨pw_cell_below hb0 (hHeld.1), pw_cell_below hb0 (hHeld.2.1), pw_cell_below hb0 (hHeld.2.2.1), pw_cell_below hb0 (hHeld.2.2.2.1), pw_cell_below hb0 (hHeld.2.2.2.2)⟩ (fun hHeld => ?_)
          clear hK K
          refine norm_ (a' := ?_) ?_ ?_
          rotate_left
          · show Act.put _ (some 26) _ = _
            simp only [Act.put, List.setIfInBounds_toArray, List.set_cons_zero, List.set_cons_succ, i64_w, i32_w]
            rfl
          refine two_ (i := 6) (j := 12) (Ni := some 31) (Nj := some 7) #[true, true, true, true, true, true, true, false, false, false, false, false, false, false, false] #[true, true, true, true, true, true, false, false, false, false, false, false, true, false, false] rfl rfl rfl rfl (two_of HT_.out (by kernel_rfl)) (by decide) (by decide) (fun K hK => ?_) (fun K hK => ?_)
          · skip
            refine goes_ Try.func10 (by kernel_rfl) rfl #[.agg #[.int .i64 n2, .slice B k.length d]] (by rfl) rfl rfl (by simp only [List.map_toArray, List.map_cons, List.map_nil]; first | rfl | (refine congrArg List.toArray (congr (congrArg List.cons ?_) (congrArg (fun z => [z]) ?_)) <;> first | rfl | go_simp)) ?_
            with_reducible refine (copy_C k n2 B d _ (Kd.C_below C_k.out (bt (bt (bt N_w3.out N_w4.out) N_w5.out) (bt (Below.refl w5.heap.size w5).drew hb0))) hm HQ).mono ?_
            rintro e wq1 ⟨A2, c2, rfl, hc2, hC2, hb1⟩
            refine ⟨_, rfl, ?_⟩
            refine hK.out _ _ ⟨pw_cell_below hb1 (hHeld.1), pw_cell_below hb1 (hHeld.2.1), pw_cell_below hb1 (hHeld.2.2.1), pw_cell_below hb1 (hHeld.2.2.2.1), pw_cell_below hb1 (hHeld.2.2.2.2)⟩ (fun hHeld => ?_)
            clear hK K
            refine norm_ (a' := ?_) ?_ ?_
            rotate_left
            · show Act.put _ (some 31) _ = _
              simp only [Act.put, List.setIfInBounds_toArray, List.set_cons_zero, List.set_cons_succ, i64_w, i32_w]
              rfl
            refine pure_ (i := 7) (N := some 32) (v := ?_) (a' := ?_) #[true, true, true, true, true, true, true, true, false, false, false, false, false, false, false] rfl rfl (any_of HT_.out (by kernel_rfl)) (fun _ _ _ h => h) (Or.inl ⟨by rfl, ?_⟩) ?_ ?_
            rotate_left
            · intro w'
              go_simp
              with_reducible rfl
            rotate_left
            · simp only [Act.put, List.setIfInBounds_toArray, List.set_cons_zero, List.set_cons_succ, i64_w, i32_w]
              rfl
            refine two_ (i := 8) (j := 12) (Ni := some 33) (Nj := some 7) #[true, true, true, true, true, true, true, true, true, false, false, false, false, false, false] #[true, true, true, true, true, true, true, true, false, false, false, false, true, false, false] rfl rfl rfl rfl (two_of HT_.out (by kernel_rfl)) (by decide) (by decide) (fun K hK => ?_) (fun K hK => ?_)
            · skip
              refine goes_ Try.func16 (by kernel_rfl) rfl #[.agg #[.int .i64 s, .slice A1 (lower l s).length c1], .agg #[.int .i64 s, .int .i64 n2, .slice A2 k.length c2]] (by rfl) rfl rfl (by simp only [List.map_toArray, List.map_cons, List.map_nil]; first | rfl | (refine congrArg List.toArray (congr (congrArg List.cons ?_) (congrArg (fun z => [z]) ?_)) <;> first | rfl | go_simp)) ?_
              with_reducible refine (apply_R (lower l s) k (mrg (lower l s) k) s n2 A1 A2 c1 c2 _ (Kd.C_below hC1 hb1) hc1 Rb (Kd.C_below hC2 (Below.refl _ _)) hc2 HQ h2 h3 la).mono ?_
              rintro e wq2 ⟨A_7, c_7, rfl, hcx, hRx, hb2⟩
              refine ⟨_, rfl, ?_⟩
              refine hK.out _ _ ⟨pw_cell_below hb2 (hHeld.1), pw_cell_below hb2 (hHeld.2.1), pw_cell_below hb2 (hHeld.2.2.1), pw_cell_below hb2 (hHeld.2.2.2.1), pw_cell_below hb2 (hHeld.2.2.2.2)⟩ (fun hHeld => ?_)
              clear hK K
              refine norm_ (a' := ?_) ?_ ?_
              rotate_left
              · show Act.put _ (some 33) _ = _
                simp only [Act.put, List.setIfInBounds_toArray, List.set_cons_zero, List.set_cons_succ, i64_w, i32_w]
                rfl
              refine pure_ (i := 9) (N := some 24) (v := ?_) (a' := ?_) #[true, true, true, true, true, true, true, true, true, true, false, false, false, false, false] rfl rfl (any_of HT_.out (by kernel_rfl)) (fun _ _ _ h => h) (Or.inl ⟨by rfl, ?_⟩) ?_ ?_
              rotate_left
              · intro w'
                go_simp
                with_reducible rfl
              rotate_left
              · simp only [Act.put, List.setIfInBounds_toArray, List.set_cons_zero, List.set_cons_succ, i64_w, i32_w]
                rfl
              refine pure_ (i := 10) (N := some 34) (v := ?_) (a' := ?_) #[true, true, true, true, true, true, true, true, true, true, true, false, false, false, false] rfl rfl (any_of HT_.out (by kernel_rfl)) (fun _ _ _ h => h) (Or.inl ⟨by rfl, ?_⟩) ?_ ?_
              rotate_left
              · intro w'
                go_simp
                with_reducible rfl
              rotate_left
              · simp only [Act.put, List.setIfInBounds_toArray, List.set_cons_zero, List.set_cons_succ, i64_w, i32_w]
                rfl
              refine pure_ (i := 11) (N := some 35) (v := ?_) (a' := ?_) #[true, true, true, true, true, true, true, true, true, true, true, true, false, false, false] rfl rfl (any_of HT_.out (by kernel_rfl)) (fun _ _ _ h => h) (Or.inl ⟨by rfl, ?_⟩) ?_ ?_
              rotate_left
              · intro w'
                go_simp
                with_reducible rfl
              rotate_left
              · simp only [Act.put, List.setIfInBounds_toArray, List.set_cons_zero, List.set_cons_succ, i64_w, i32_w]
                rfl
              refine one_ (i := 12) (N := some 7) #[true, true, true, true, true, true, true, true, true, true, true, true, true, false, false] rfl rfl (one_of HT_.out (by kernel_rfl)) (by decide) (fun K hK => ?_)
              refine value_ (w1 := ?_) (v := ?_) (by rfl) rfl ?_ ?_
              rotate_left 2
              · go_simp
                constructor
                · rfl
                · rfl
              refine hK.out _ _ ⟨pw_cell_below (below1 _ _) (hHeld.1), pw_cell_below (below1 _ _) (hHeld.2.1), pw_cell_below (below1 _ _) (hHeld.2.2.1), pw_cell_below (below1 _ _) (hHeld.2.2.2.1), pw_cell_below (below1 _ _) (hHeld.2.2.2.2)⟩ (fun hHeld => ?_)
              clear hK K
              refine norm_ (a' := ?_) ?_ ?_
              rotate_left
              · show Act.put _ (some 7) _ = _
                simp only [Act.put, List.setIfInBounds_toArray, List.set_cons_zero, List.set_cons_succ, i64_w, i32_w]
                rfl
              exact norm_ (by simp only [putAll, Act.put, List.setIfInBounds_toArray, List.set_cons_zero, List.set_cons_succ]) (hCont (wq2.heap.size, A1, c1, A2, c2, A_7, c_7) _ ⟨(bt (bt (bt (bt (Below.refl w5.heap.size w5).drew hb0) hb1) hb2) (below1 _ (.cells #[.int .i64 0, .slice none 0 0] 24))), zbox_new _, ((bt (bt (bt (Below.refl w5.heap.size w5).drew hb0) hb1) hb2)).size, r_new hRx (((bt (bt (Below.refl w5.heap.size w5).drew hb0) hb1)).size) _⟩)
            · skip
              refine value_ (w1 := ?_) (v := ?_) (by rfl) rfl ?_ ?_
              rotate_left 2
              · go_simp
                constructor
                · rfl
                · rfl
              refine hK.out _ _ ⟨pw_cell_below (below1 _ _) (hHeld.1), pw_cell_below (below1 _ _) (hHeld.2.1), pw_cell_below (below1 _ _) (hHeld.2.2.1), pw_cell_below (below1 _ _) (hHeld.2.2.2.1), pw_cell_below (below1 _ _) (hHeld.2.2.2.2)⟩ (fun hHeld => ?_)
              clear hK K
              refine norm_ (a' := ?_) ?_ ?_
              rotate_left
              · show Act.put _ (some 7) _ = _
                simp only [Act.put, List.setIfInBounds_toArray, List.set_cons_zero, List.set_cons_succ, i64_w, i32_w]
                rfl
              refine one_ (i := 8) (N := some 33) #[true, true, true, true, true, true, true, true, true, false, false, false, true, false, false] rfl rfl (one_of HT_.out (by kernel_rfl)) (by decide) (fun K hK => ?_)
              refine goes_ Try.func16 (by kernel_rfl) rfl #[.agg #[.int .i64 s, .slice A1 (lower l s).length c1], .agg #[.int .i64 s, .int .i64 n2, .slice A2 k.length c2]] (by rfl) rfl rfl (by simp only [List.map_toArray, List.map_cons, List.map_nil]; first | rfl | (refine congrArg List.toArray (congr (congrArg List.cons ?_) (congrArg (fun z => [z]) ?_)) <;> first | rfl | go_simp)) ?_
              with_reducible refine (apply_R (lower l s) k (mrg (lower l s) k) s n2 A1 A2 c1 c2 _ (Kd.C_below hC1 (bt hb1 (below1 _ (.cells #[.int .i64 0, .slice none 0 0] 24)))) hc1 Rb (Kd.C_below hC2 (below1 _ (.cells #[.int .i64 0, .slice none 0 0] 24))) hc2 HQ h2 h3 la).mono ?_
              rintro e wq2 ⟨A_7, c_7, rfl, hcx, hRx, hb2⟩
              refine ⟨_, rfl, ?_⟩
              refine hK.out _ _ ⟨pw_cell_below hb2 (hHeld.1), pw_cell_below hb2 (hHeld.2.1), pw_cell_below hb2 (hHeld.2.2.1), pw_cell_below hb2 (hHeld.2.2.2.1), pw_cell_below hb2 (hHeld.2.2.2.2)⟩ (fun hHeld => ?_)
              clear hK K
              refine norm_ (a' := ?_) ?_ ?_
              rotate_left
              · show Act.put _ (some 33) _ = _
                simp only [Act.put, List.setIfInBounds_toArray, List.set_cons_zero, List.set_cons_succ, i64_w, i32_w]
                rfl
              refine pure_ (i := 9) (N := some 24) (v := ?_) (a' := ?_) #[true, true, true, true, true, true, true, true, true, true, false, false, true, false, false] rfl rfl (any_of HT_.out (by kernel_rfl)) (fun _ _ _ h => h) (Or.inl ⟨by rfl, ?_⟩) ?_ ?_
              rotate_left
              · intro w'
                go_simp
                with_reducible rfl
              rotate_left
              · simp only [Act.put, List.setIfInBounds_toArray, List.set_cons_zero, List.set_cons_succ, i64_w, i32_w]
                rfl
              refine pure_ (i := 10) (N := some 34) (v := ?_) (a' := ?_) #[true, true, true, true, true, true, true, true, true, true, true, false, true, false, false] rfl rfl (any_of HT_.out (by kernel_rfl)) (fun _ _ _ h => h) (Or.inl ⟨by rfl, ?_⟩) ?_ ?_
              rotate_left
              · intro w'
                go_simp
                with_reducible rfl
              rotate_left
              · simp only [Act.put, List.setIfInBounds_toArray, List.set_cons_zero, List.set_cons_succ, i64_w, i32_w]
                rfl
              refine pure_ (i := 11) (N := some 35) (v := ?_) (a' := ?_) #[true, true, true, true, true, true, true, true, true, true, true, true, true, false, false] rfl rfl (any_of HT_.out (by kernel_rfl)) (fun _ _ _ h => h) (Or.inl ⟨by rfl, ?_⟩) ?_ ?_
              rotate_left
              · intro w'
                go_simp
                with_reducible rfl
              rotate_left
              · simp only [Act.put, List.setIfInBounds_toArray, List.set_cons_zero, List.set_cons_succ, i64_w, i32_w]
                rfl
              exact norm_ (by simp only [putAll, Act.put, List.setIfInBounds_toArray, List.set_cons_zero, List.set_cons_succ]) (hCont (wq1.heap.size, A1, c1, A2, c2, A_7, c_7) _ ⟨(bt (bt (bt (bt (Below.refl w5.heap.size w5).drew hb0) hb1) (below1 _ (.cells #[.int .i64 0, .slice none 0 0] 24))) hb2), (zbox_new _).below hb2, ((bt (bt (Below.refl w5.heap.size w5).drew hb0) hb1)).size, r_low hRx (((bt (bt (bt (Below.refl w5.heap.size w5).drew hb0) hb1) (below1 _ (.cells #[.int .i64 0, .slice none 0 0] 24)))).size) (by rw [alloc_size]; exact Nat.lt_succ_self _)⟩)
          · skip
            refine value_ (w1 := ?_) (v := ?_) (by rfl) rfl ?_ ?_
            rotate_left 2
            · go_simp
              constructor
              · rfl
              · rfl
            refine hK.out _ _ ⟨pw_cell_below (below1 _ _) (hHeld.1), pw_cell_below (below1 _ _) (hHeld.2.1), pw_cell_below (below1 _ _) (hHeld.2.2.1), pw_cell_below (below1 _ _) (hHeld.2.2.2.1), pw_cell_below (below1 _ _) (hHeld.2.2.2.2)⟩ (fun hHeld => ?_)
            clear hK K
            refine norm_ (a' := ?_) ?_ ?_
            rotate_left
            · show Act.put _ (some 7) _ = _
              simp only [Act.put, List.setIfInBounds_toArray, List.set_cons_zero, List.set_cons_succ, i64_w, i32_w]
              rfl
            refine one_ (i := 6) (N := some 31) #[true, true, true, true, true, true, true, false, false, false, false, false, true, false, false] rfl rfl (one_of HT_.out (by kernel_rfl)) (by decide) (fun K hK => ?_)
            refine goes_ Try.func10 (by kernel_rfl) rfl #[.agg #[.int .i64 n2, .slice B k.length d]] (by rfl) rfl rfl (by simp only [List.map_toArray, List.map_cons, List.map_nil]; first | rfl | (refine congrArg List.toArray (congr (congrArg List.cons ?_) (congrArg (fun z => [z]) ?_)) <;> first | rfl | go_simp)) ?_
            with_reducible refine (copy_C k n2 B d _ (Kd.C_below C_k.out (bt (bt (bt N_w3.out N_w4.out) N_w5.out) (bt (bt (Below.refl w5.heap.size w5).drew hb0) (below1 _ (.cells #[.int .i64 0, .slice none 0 0] 24))))) hm HQ).mono ?_
            rintro e wq1 ⟨A2, c2, rfl, hc2, hC2, hb1⟩
            refine ⟨_, rfl, ?_⟩
            refine hK.out _ _ ⟨pw_cell_below hb1 (hHeld.1), pw_cell_below hb1 (hHeld.2.1), pw_cell_below hb1 (hHeld.2.2.1), pw_cell_below hb1 (hHeld.2.2.2.1), pw_cell_below hb1 (hHeld.2.2.2.2)⟩ (fun hHeld => ?_)
            clear hK K
            refine norm_ (a' := ?_) ?_ ?_
            rotate_left
            · show Act.put _ (some 31) _ = _
              simp only [Act.put, List.setIfInBounds_toArray, List.set_cons_zero, List.set_cons_succ, i64_w, i32_w]
              rfl
            refine pure_ (i := 7) (N := some 32) (v := ?_) (a' := ?_) #[true, true, true, true, true, true, true, true, false, false, false, false, true, false, false] rfl rfl (any_of HT_.out (by kernel_rfl)) (fun _ _ _ h => h) (Or.inl ⟨by rfl, ?_⟩) ?_ ?_
            rotate_left
            · intro w'
              go_simp
              with_reducible rfl
            rotate_left
            · simp only [Act.put, List.setIfInBounds_toArray, List.set_cons_zero, List.set_cons_succ, i64_w, i32_w]
              rfl
            refine one_ (i := 8) (N := some 33) #[true, true, true, true, true, true, true, true, true, false, false, false, true, false, false] rfl rfl (one_of HT_.out (by kernel_rfl)) (by decide) (fun K hK => ?_)
            refine goes_ Try.func16 (by kernel_rfl) rfl #[.agg #[.int .i64 s, .slice A1 (lower l s).length c1], .agg #[.int .i64 s, .int .i64 n2, .slice A2 k.length c2]] (by rfl) rfl rfl (by simp only [List.map_toArray, List.map_cons, List.map_nil]; first | rfl | (refine congrArg List.toArray (congr (congrArg List.cons ?_) (congrArg (fun z => [z]) ?_)) <;> first | rfl | go_simp)) ?_
            with_reducible refine (apply_R (lower l s) k (mrg (lower l s) k) s n2 A1 A2 c1 c2 _ (Kd.C_below hC1 (bt (below1 _ (.cells #[.int .i64 0, .slice none 0 0] 24)) hb1)) hc1 Rb (Kd.C_below hC2 (Below.refl _ _)) hc2 HQ h2 h3 la).mono ?_
            rintro e wq2 ⟨A_7, c_7, rfl, hcx, hRx, hb2⟩
            refine ⟨_, rfl, ?_⟩
            refine hK.out _ _ ⟨pw_cell_below hb2 (hHeld.1), pw_cell_below hb2 (hHeld.2.1), pw_cell_below hb2 (hHeld.2.2.1), pw_cell_below hb2 (hHeld.2.2.2.1), pw_cell_below hb2 (hHeld.2.2.2.2)⟩ (fun hHeld => ?_)
            clear hK K
            refine norm_ (a' := ?_) ?_ ?_
            rotate_left
            · show Act.put _ (some 33) _ = _
              simp only [Act.put, List.setIfInBounds_toArray, List.set_cons_zero, List.set_cons_succ, i64_w, i32_w]
              rfl
            refine pure_ (i := 9) (N := some 24) (v := ?_) (a' := ?_) #[true, true, true, true, true, true, true, true, true, true, false, false, true, false, false] rfl rfl (any_of HT_.out (by kernel_rfl)) (fun _ _ _ h => h) (Or.inl ⟨by rfl, ?_⟩) ?_ ?_
            rotate_left
            · intro w'
              go_simp
              with_reducible rfl
            rotate_left
            · simp only [Act.put, List.setIfInBounds_toArray, List.set_cons_zero, List.set_cons_succ, i64_w, i32_w]
              rfl
            refine pure_ (i := 10) (N := some 34) (v := ?_) (a' := ?_) #[true, true, true, true, true, true, true, true, true, true, true, false, true, false, false] rfl rfl (any_of HT_.out (by kernel_rfl)) (fun _ _ _ h => h) (Or.inl ⟨by rfl, ?_⟩) ?_ ?_
            rotate_left
            · intro w'
              go_simp
              with_reducible rfl
            rotate_left
            · simp only [Act.put, List.setIfInBounds_toArray, List.set_cons_zero, List.set_cons_succ, i64_w, i32_w]
              rfl
            refine pure_ (i := 11) (N := some 35) (v := ?_) (a' := ?_) #[true, true, true, true, true, true, true, true, true, true, true, true, true, false, false] rfl rfl (any_of HT_.out (by kernel_rfl)) (fun _ _ _ h => h) (Or.inl ⟨by rfl, ?_⟩) ?_ ?_
            rotate_left
            · intro w'
              go_simp
              with_reducible rfl
            rotate_left
            · simp only [Act.put, List.setIfInBounds_toArray, List.set_cons_zero, List.set_cons_succ, i64_w, i32_w]
              rfl
            exact norm_ (by simp only [putAll, Act.put, List.setIfInBounds_toArray, List.set_cons_zero, List.set_cons_succ]) (hCont (wq0.heap.size, A1, c1, A2, c2, A_7, c_7) _ ⟨(bt (bt (bt (bt (Below.refl w5.heap.size w5).drew hb0) (below1 _ (.cells #[.int .i64 0, .slice none 0 0] 24))) hb1) hb2), ((zbox_new _).below hb1).below hb2, ((bt (Below.refl w5.heap.size w5).drew hb0)).size, r_low hRx (((bt (bt (bt (Below.refl w5.heap.size w5).drew hb0) (below1 _ (.cells #[.int .i64 0, .slice none 0 0] 24))) hb1)).size) (Zbox.lt ((zbox_new _).below hb1))⟩)
        · skip
          refine value_ (w1 := ?_) (v := ?_) (by rfl) rfl ?_ ?_
          rotate_left 2
          · go_simp
            constructor
            · rfl
            · rfl
          refine hK.out _ _ ⟨pw_cell_below (below1 _ _) (hHeld.1), pw_cell_below (below1 _ _) (hHeld.2.1), pw_cell_below (below1 _ _) (hHeld.2.2.1), pw_cell_below (below1 _ _) (hHeld.2.2.2.1), pw_cell_below (below1 _ _) (hHeld.2.2.2.2)⟩ (fun hHeld => ?_)
          clear hK K
          refine norm_ (a' := ?_) ?_ ?_
          rotate_left
          · show Act.put _ (some 7) _ = _
            simp only [Act.put, List.setIfInBounds_toArray, List.set_cons_zero, List.set_cons_succ, i64_w, i32_w]
            rfl
          refine one_ (i := 1) (N := some 26) #[true, true, true, true, true, true, false, false, false, false, false, false, true, false, false] rfl rfl (one_of HT_.out (by kernel_rfl)) (by decide) (fun K hK => ?_)
          refine goes_ Try.func10 (by kernel_rfl) rfl #[.agg #[.int .i64 s, .slice A_b (lower l s).length c_b]] (by rfl) rfl rfl (by simp only [List.map_toArray, List.map_cons, List.map_nil]; first | rfl | (refine congrArg List.toArray (congr (congrArg List.cons ?_) (congrArg (fun z => [z]) ?_)) <;> first | rfl | go_simp)) ?_
          with_reducible refine (copy_C (lower l s) s A_b c_b _ (Kd.C_below C_b.out (bt (bt N_w4.out N_w5.out) (below1 w5 (.cells #[.int .i64 0, .slice none 0 0] 24)).drew)) hl_b Rb).mono ?_
          rintro e wq0 ⟨A1, c1, rfl, hc1, hC1, hb0⟩
          refine ⟨_, rfl, ?_⟩
          refine hK.out _ _ ⟨pw_cell_below hb0 (hHeld.1), pw_cell_below hb0 (hHeld.2.1), pw_cell_below hb0 (hHeld.2.2.1), pw_cell_below hb0 (hHeld.2.2.2.1), pw_cell_below hb0 (hHeld.2.2.2.2)⟩ (fun hHeld => ?_)
          clear hK K
          refine norm_ (a' := ?_) ?_ ?_
          rotate_left
          · show Act.put _ (some 26) _ = _
            simp only [Act.put, List.setIfInBounds_toArray, List.set_cons_zero, List.set_cons_succ, i64_w, i32_w]
            rfl
          refine one_ (i := 6) (N := some 31) #[true, true, true, true, true, true, true, false, false, false, false, false, true, false, false] rfl rfl (one_of HT_.out (by kernel_rfl)) (by decide) (fun K hK => ?_)
          refine goes_ Try.func10 (by kernel_rfl) rfl #[.agg #[.int .i64 n2, .slice B k.length d]] (by rfl) rfl rfl (by simp only [List.map_toArray, List.map_cons, List.map_nil]; first | rfl | (refine congrArg List.toArray (congr (congrArg List.cons ?_) (congrArg (fun z => [z]) ?_)) <;> first | rfl | go_simp)) ?_
          with_reducible refine (copy_C k n2 B d _ (Kd.C_below C_k.out (bt (bt (bt N_w3.out N_w4.out) N_w5.out) (bt (below1 w5 (.cells #[.int .i64 0, .slice none 0 0] 24)).drew hb0))) hm HQ).mono ?_
          rintro e wq1 ⟨A2, c2, rfl, hc2, hC2, hb1⟩
          refine ⟨_, rfl, ?_⟩
          refine hK.out _ _ ⟨pw_cell_below hb1 (hHeld.1), pw_cell_below hb1 (hHeld.2.1), pw_cell_below hb1 (hHeld.2.2.1), pw_cell_below hb1 (hHeld.2.2.2.1), pw_cell_below hb1 (hHeld.2.2.2.2)⟩ (fun hHeld => ?_)
          clear hK K
          refine norm_ (a' := ?_) ?_ ?_
          rotate_left
          · show Act.put _ (some 31) _ = _
            simp only [Act.put, List.setIfInBounds_toArray, List.set_cons_zero, List.set_cons_succ, i64_w, i32_w]
            rfl
          refine pure_ (i := 7) (N := some 32) (v := ?_) (a' := ?_) #[true, true, true, true, true, true, true, true, false, false, false, false, true, false, false] rfl rfl (any_of HT_.out (by kernel_rfl)) (fun _ _ _ h => h) (Or.inl ⟨by rfl, ?_⟩) ?_ ?_
          rotate_left
          · intro w'
            go_simp
            with_reducible rfl
          rotate_left
          · simp only [Act.put, List.setIfInBounds_toArray, List.set_cons_zero, List.set_cons_succ, i64_w, i32_w]
            rfl
          refine one_ (i := 8) (N := some 33) #[true, true, true, true, true, true, true, true, true, false, false, false, true, false, false] rfl rfl (one_of HT_.out (by kernel_rfl)) (by decide) (fun K hK => ?_)
          refine goes_ Try.func16 (by kernel_rfl) rfl #[.agg #[.int .i64 s, .slice A1 (lower l s).length c1], .agg #[.int .i64 s, .int .i64 n2, .slice A2 k.length c2]] (by rfl) rfl rfl (by simp only [List.map_toArray, List.map_cons, List.map_nil]; first | rfl | (refine congrArg List.toArray (congr (congrArg List.cons ?_) (congrArg (fun z => [z]) ?_)) <;> first | rfl | go_simp)) ?_
          with_reducible refine (apply_R (lower l s) k (mrg (lower l s) k) s n2 A1 A2 c1 c2 _ (Kd.C_below hC1 hb1) hc1 Rb (Kd.C_below hC2 (Below.refl _ _)) hc2 HQ h2 h3 la).mono ?_
          rintro e wq2 ⟨A_7, c_7, rfl, hcx, hRx, hb2⟩
          refine ⟨_, rfl, ?_⟩
          refine hK.out _ _ ⟨pw_cell_below hb2 (hHeld.1), pw_cell_below hb2 (hHeld.2.1), pw_cell_below hb2 (hHeld.2.2.1), pw_cell_below hb2 (hHeld.2.2.2.1), pw_cell_below hb2 (hHeld.2.2.2.2)⟩ (fun hHeld => ?_)
          clear hK K
          refine norm_ (a' := ?_) ?_ ?_
          rotate_left
          · show Act.put _ (some 33) _ = _
            simp only [Act.put, List.setIfInBounds_toArray, List.set_cons_zero, List.set_cons_succ, i64_w, i32_w]
            rfl
          refine pure_ (i := 9) (N := some 24) (v := ?_) (a' := ?_) #[true, true, true, true, true, true, true, true, true, true, false, false, true, false, false] rfl rfl (any_of HT_.out (by kernel_rfl)) (fun _ _ _ h => h) (Or.inl ⟨by rfl, ?_⟩) ?_ ?_
          rotate_left
          · intro w'
            go_simp
            with_reducible rfl
          rotate_left
          · simp only [Act.put, List.setIfInBounds_toArray, List.set_cons_zero, List.set_cons_succ, i64_w, i32_w]
            rfl
          refine pure_ (i := 10) (N := some 34) (v := ?_) (a' := ?_) #[true, true, true, true, true, true, true, true, true, true, true, false, true, false, false] rfl rfl (any_of HT_.out (by kernel_rfl)) (fun _ _ _ h => h) (Or.inl ⟨by rfl, ?_⟩) ?_ ?_
          rotate_left
          · intro w'
            go_simp
            with_reducible rfl
          rotate_left
          · simp only [Act.put, List.setIfInBounds_toArray, List.set_cons_zero, List.set_cons_succ, i64_w, i32_w]
            rfl
          refine pure_ (i := 11) (N := some 35) (v := ?_) (a' := ?_) #[true, true, true, true, true, true, true, true, true, true, true, true, true, false, false] rfl rfl (any_of HT_.out (by kernel_rfl)) (fun _ _ _ h => h) (Or.inl ⟨by rfl, ?_⟩) ?_ ?_
          rotate_left
          · intro w'
            go_simp
            with_reducible rfl
          rotate_left
          · simp only [Act.put, List.setIfInBounds_toArray, List.set_cons_zero, List.set_cons_succ, i64_w, i32_w]
            rfl
          exact norm_ (by simp only [putAll, Act.put, List.setIfInBounds_toArray, List.set_cons_zero, List.set_cons_succ]) (hCont (w5.heap.size, A1, c1, A2, c2, A_7, c_7) _ ⟨(bt (bt (bt (below1 w5 (.cells #[.int .i64 0, .slice none 0 0] 24)).drew hb0) hb1) hb2), ((((zbox_new w5).below (Below.refl _ _).drew).below hb0).below hb1).below hb2, Nat.le_refl _, r_low hRx (((bt (bt (below1 w5 (.cells #[.int .i64 0, .slice none 0 0] 24)).drew hb0) hb1)).size) (Zbox.lt ((((zbox_new w5).below (Below.refl _ _).drew).below hb0).below hb1))⟩)
      rintro ⟨g7, A1, c1, A2, c2, A_7, c_7⟩ wx7 ⟨hF1, hF2, hF3, hF4⟩
      have k0 := hF2.c0
      have k1 := hF2.c1
      have kf := hF2.fr
      refine norm_ (a' := ?_) ?_ ?_
      rotate_left
      · simp only [putAll, Act.put, List.setIfInBounds_toArray, List.set_cons_zero, List.set_cons_succ]
        rfl
      refine last_ (i := 13) (N := none) #[true, true, true, true, true, true, true, true, true, true, true, true, true, true, false] rfl rfl (one_of HT_.out (by kernel_rfl)) (by decide) (fun K hK => ?_)
      refine skip_ (w1 := ?_) (by rfl) rfl ?_ ?_
      rotate_left
      · go_simp
        rfl
      refine hK.out _ _ ?_
      clear hK K
      refine pure_ (i := 14) (N := some 8) (v := ?_) (a' := ?_) #[true, true, true, true, true, true, true, true, true, true, true, true, true, true, true] rfl rfl (any_of HT_.out (by kernel_rfl)) (fun _ _ _ h => h) (Or.inl ⟨by rfl, ?_⟩) ?_ ?_
      rotate_left
      · intro w'
        go_simp
        with_reducible rfl
      rotate_left
      · simp only [Act.put, List.setIfInBounds_toArray, List.set_cons_zero, List.set_cons_succ, i64_w, i32_w]
        rfl
      refine done_ (done_of HT_.out (by kernel_rfl)) ?_
      obtain ⟨hs1, hs2, hs3, hs4, hs5⟩ := stored n2 hF1 hF2 hF3 hF4
      generalize ((wx7.setCell ⟨g7, 0, none⟩ (.int .i64 n2)).setCell ⟨g7, 1, none⟩ (.slice A_7 (mrg (lower l s) k).length c_7)) = w8 at *
      clear hF1 hF2 hF3 hF4 k0 k1 kf
      have N_w8 := Lib.hid hs1
      have C_x := Lib.hid hs5
      have hl_x := hs4
      have B_x_0 := Lib.hid hs2
      have B_x_1 := Lib.hid hs3
      clear hs1 hs2 hs3 hs4 hs5
      have V_v_0 : World.cell? w8 ⟨w.heap.size, 0, none⟩ = some (.int .i64 s) := pw_cell_below (bt (bt N_w4.out N_w5.out) N_w8.out) B_v_0.out
      have V_v_1 : World.cell? w8 ⟨w.heap.size, 1, none⟩ = some (.slice A_b (lower l s).length c_b) := pw_cell_below (bt (bt N_w4.out N_w5.out) N_w8.out) B_v_1.out
      have V_d_0 : World.cell? w8 ⟨w.heap.size + 1, 0, none⟩ = some (.int .i64 s) := pw_cell_below (bt (bt N_w4.out N_w5.out) N_w8.out) B_d_0.out
      have V_d_1 : World.cell? w8 ⟨w.heap.size + 1, 1, none⟩ = some (.int .i64 n2) := pw_cell_below (bt (bt N_w4.out N_w5.out) N_w8.out) B_d_1.out
      have V_d_2 : World.cell? w8 ⟨w.heap.size + 1, 2, none⟩ = some (.slice B k.length d) := pw_cell_below (bt (bt N_w4.out N_w5.out) N_w8.out) B_d_2.out
      go_upto_region 12 with fail
      clear V_v_0 V_v_1 V_d_0 V_d_1 V_d_2
      refine start_ (n := 7) (S := fun w' => w'.cell? ⟨w.heap.size, 0, none⟩ = some (.int .i64 s) ∧ w'.cell? ⟨w.heap.size, 1, none⟩ = some (.slice A_b (lower l s).length c_b) ∧ w'.cell? ⟨w.heap.size + 1, 0, none⟩ = some (.int .i64 s) ∧ w'.cell? ⟨w.heap.size + 1, 1, none⟩ = some (.int .i64 n2) ∧ w'.cell? ⟨w.heap.size + 1, 2, none⟩ = some (.slice B k.length d)) (ds := []) #[false, false, false, false, false, false, false] (by kernel_rfl) rfl rfl ⟨pw_cell_below (bt (bt (bt N_w4.out N_w5.out) N_w8.out) (Below.refl _ _).drew) B_v_0.out, pw_cell_below (bt (bt (bt N_w4.out N_w5.out) N_w8.out) (Below.refl _ _).drew) B_v_1.out, pw_cell_below (bt (bt (bt N_w4.out N_w5.out) N_w8.out) (Below.refl _ _).drew) B_d_0.out, pw_cell_below (bt (bt (bt N_w4.out N_w5.out) N_w8.out) (Below.refl _ _).drew) B_d_1.out, pw_cell_below (bt (bt (bt N_w4.out N_w5.out) N_w8.out) (Below.refl _ _).drew) B_d_2.out⟩ (fun hHeld => ?_)
      refine with_tabW fL.tab12 fL.bits12 (fun HT_ HW_ => ?_)
      refine pure_ (i := 2) (N := some 61) (v := ?_) (a' := ?_) #[false, false, true, false, false, false, false] rfl rfl (any_of HT_.out (by kernel_rfl)) (fun _ _ _ h => h) (Or.inl ⟨by rfl, ?_⟩) ?_ ?_
      rotate_left
      · intro w'
        go_simp
        with_reducible rfl
      rotate_left
      · simp only [Act.put, List.setIfInBounds_toArray, List.set_cons_zero, List.set_cons_succ, i64_w, i32_w]
        rfl
      refine take_ (i := 0) (N := some 59) (v := ?_) (a' := ?_) #[true, false, true, false, false, false, false] rfl rfl (take_ofW HT_.out HW_.out (by kernel_rfl)) (fun _ _ _ h => h) (Or.inl ⟨by rfl, ?_⟩) hHeld ?_ ?_
      rotate_left
      · rintro w' ⟨s0, s1, s2, s3, s4⟩
        go_simp
        with_reducible rfl
      rotate_left
      · simp only [Act.put, List.setIfInBounds_toArray, List.set_cons_zero, List.set_cons_succ, i64_w, i32_w]
        rfl
      refine take_ (i := 3) (N := some 62) (v := ?_) (a' := ?_) #[true, false, true, true, false, false, false] rfl rfl (take_ofW HT_.out HW_.out (by kernel_rfl)) (fun _ _ _ h => h) (Or.inl ⟨by rfl, ?_⟩) hHeld ?_ ?_
      rotate_left
      · rintro w' ⟨s0, s1, s2, s3, s4⟩
        go_simp
        with_reducible rfl
      rotate_left
      · simp only [Act.put, List.setIfInBounds_toArray, List.set_cons_zero, List.set_cons_succ, i64_w, i32_w]
        rfl
      refine one_ (i := 1) (N := some 60) #[true, true, true, true, false, false, false] rfl rfl (one_of HT_.out (by kernel_rfl)) (by decide) (fun K hK => ?_)
      refine goes_ Try.func21 (by kernel_rfl) rfl #[.agg #[.int .i64 s, .slice A_b (lower l s).length c_b]] (by rfl) rfl rfl (by simp only [List.map_toArray, List.map_cons, List.map_nil]; first | rfl | (refine congrArg List.toArray (congr (congrArg List.cons ?_) (congrArg (fun z => [z]) ?_)) <;> first | rfl | go_simp)) ?_
      with_reducible refine (refBytes_any (lower l s) s A_b c_b _ (Kd.C_below C_b.out (bt (bt (bt N_w4.out N_w5.out) N_w8.out) (Below.refl w8.heap.size w8).drew)) hl_b Rb.fits).mono ?_
      rintro e wy0 ⟨rfl, hy0⟩
      refine ⟨_, rfl, ?_⟩
      refine hK.out _ _ ⟨pw_cell_below hy0 (hHeld.1), pw_cell_below hy0 (hHeld.2.1), pw_cell_below hy0 (hHeld.2.2.1), pw_cell_below hy0 (hHeld.2.2.2.1), pw_cell_below hy0 (hHeld.2.2.2.2)⟩ (fun hHeld => ?_)
      clear hK K
      refine norm_ (a' := ?_) ?_ ?_
      rotate_left
      · show Act.put _ (some 60) _ = _
        simp only [Act.put, List.setIfInBounds_toArray, List.set_cons_zero, List.set_cons_succ, i64_w, i32_w]
        rfl
      refine one_ (i := 4) (N := some 63) #[true, true, true, true, true, false, false] rfl rfl (one_of HT_.out (by kernel_rfl)) (by decide) (fun K hK => ?_)
      refine goes_ Try.func21 (by kernel_rfl) rfl #[.agg #[.int .i64 n2, .slice B k.length d]] (by rfl) rfl rfl (by simp only [List.map_toArray, List.map_cons, List.map_nil]; first | rfl | (refine congrArg List.toArray (congr (congrArg List.cons ?_) (congrArg (fun z => [z]) ?_)) <;> first | rfl | go_simp)) ?_
      with_reducible refine (refBytes_any k n2 B d _ (Kd.C_below C_k.out (bt (bt (bt (bt N_w3.out N_w4.out) N_w5.out) N_w8.out) (bt (Below.refl w8.heap.size w8).drew hy0))) hm HQ.fits).mono ?_
      rintro e wy1 ⟨rfl, hy1⟩
      refine ⟨_, rfl, ?_⟩
      refine hK.out _ _ ⟨pw_cell_below hy1 (hHeld.1), pw_cell_below hy1 (hHeld.2.1), pw_cell_below hy1 (hHeld.2.2.1), pw_cell_below hy1 (hHeld.2.2.2.1), pw_cell_below hy1 (hHeld.2.2.2.2)⟩ (fun hHeld => ?_)
      clear hK K
      refine norm_ (a' := ?_) ?_ ?_
      rotate_left
      · show Act.put _ (some 63) _ = _
        simp only [Act.put, List.setIfInBounds_toArray, List.set_cons_zero, List.set_cons_succ, i64_w, i32_w]
        rfl
      refine pure_ (i := 5) (N := some 64) (v := ?_) (a' := ?_) #[true, true, true, true, true, true, false] rfl rfl (any_of HT_.out (by kernel_rfl)) (fun _ _ _ h => h) (Or.inl ⟨by rfl, ?_⟩) ?_ ?_
      rotate_left
      · intro w'
        go_simp
        with_reducible rfl
      rotate_left
      · simp only [Act.put, List.setIfInBounds_toArray, List.set_cons_zero, List.set_cons_succ, i64_w, i32_w]
        rfl
      refine pure_ (i := 6) (N := some 65) (v := ?_) (a' := ?_) #[true, true, true, true, true, true, true] rfl rfl (any_of HT_.out (by kernel_rfl)) (fun _ _ _ h => h) (Or.inl ⟨by rfl, ?_⟩) ?_ ?_
      rotate_left
      · intro w'
        go_simp
        with_reducible rfl
      rotate_left
      · simp only [Act.put, List.setIfInBounds_toArray, List.set_cons_zero, List.set_cons_succ, i64_w, i32_w]
        rfl
      refine done_ (done_of HT_.out (by kernel_rfl)) ?_
      have N_wy1 := Lib.hid (bt (bt (Below.refl w8.heap.size w8).drew hy0) hy1)
      clear hy0 hy1 hHeld
      have V_x_0 : World.cell? wy1 ⟨g7, 0, none⟩ = some (.int .i64 n2) := pw_cell_below N_wy1.out B_x_0.out
      have V_x_1 : World.cell? wy1 ⟨g7, 1, none⟩ = some (.slice A_7 (mrg (lower l s) k).length c_7) := pw_cell_below N_wy1.out B_x_1.out
      go_upto_region 16 with (first
        | (go_at_call 12; with_reducible refine (right_true (mrg (lower l s) k) n2 A_7 c_7 _ (Kd.C_below C_x.out N_wy1.out) hl_x RX.fits lr).mono ?_; rintro e wz ⟨rfl, hb⟩; clear V_x_0 V_x_1; have N_wz := Lib.hid (bt (x := wy1) (Below.refl _ _) hb); have V_v_0 : World.cell? wz ⟨w.heap.size, 0, none⟩ = some (.int .i64 s) := pw_cell_below (bt (bt (bt (bt N_w4.out N_w5.out) N_w8.out) N_wy1.out) N_wz.out) B_v_0.out; have V_v_1 : World.cell? wz ⟨w.heap.size, 1, none⟩ = some (.slice A_b (lower l s).length c_b) := pw_cell_below (bt (bt (bt (bt N_w4.out N_w5.out) N_w8.out) N_wy1.out) N_wz.out) B_v_1.out; have V_d_0 : World.cell? wz ⟨w.heap.size + 1, 0, none⟩ = some (.int .i64 s) := pw_cell_below (bt (bt (bt (bt N_w4.out N_w5.out) N_w8.out) N_wy1.out) N_wz.out) B_d_0.out; have V_d_1 : World.cell? wz ⟨w.heap.size + 1, 1, none⟩ = some (.int .i64 n2) := pw_cell_below (bt (bt (bt (bt N_w4.out N_w5.out) N_w8.out) N_wy1.out) N_wz.out) B_d_1.out; have V_d_2 : World.cell? wz ⟨w.heap.size + 1, 2, none⟩ = some (.slice B k.length d) := pw_cell_below (bt (bt (bt (bt N_w4.out N_w5.out) N_w8.out) N_wy1.out) N_wz.out) B_d_2.out; have V_x_0 : World.cell? wz ⟨g7, 0, none⟩ = some (.int .i64 n2) := pw_cell_below (bt N_wy1.out N_wz.out) B_x_0.out; have V_x_1 : World.cell? wz ⟨g7, 1, none⟩ = some (.slice A_7 (mrg (lower l s) k).length c_7) := pw_cell_below (bt N_wy1.out N_wz.out) B_x_1.out; clear hb)
        )
      clear V_v_0 V_v_1 V_d_0 V_d_1 V_d_2 V_x_0 V_x_1
      refine start_ (n := 13) (S := fun w' => w'.cell? ⟨w.heap.size, 0, none⟩ = some (.int .i64 s) ∧ w'.cell? ⟨w.heap.size, 1, none⟩ = some (.slice A_b (lower l s).length c_b) ∧ w'.cell? ⟨w.heap.size + 1, 0, none⟩ = some (.int .i64 s) ∧ w'.cell? ⟨w.heap.size + 1, 1, none⟩ = some (.int .i64 n2) ∧ w'.cell? ⟨w.heap.size + 1, 2, none⟩ = some (.slice B k.length d) ∧ w'.cell? ⟨g7, 0, none⟩ = some (.int .i64 n2) ∧ w'.cell? ⟨g7, 1, none⟩ = some (.slice A_7 (mrg (lower l s) k).length c_7)) (ds := []) #[false, false, false, false, false, false, false, false, false, false, false, false, false] (by kernel_rfl) rfl rfl ⟨pw_cell_below (bt (bt (bt (bt (bt N_w4.out N_w5.out) N_w8.out) N_wy1.out) N_wz.out) (Below.refl _ _).drew) B_v_0.out, pw_cell_below (bt (bt (bt (bt (bt N_w4.out N_w5.out) N_w8.out) N_wy1.out) N_wz.out) (Below.refl _ _).drew) B_v_1.out, pw_cell_below (bt (bt (bt (bt (bt N_w4.out N_w5.out) N_w8.out) N_wy1.out) N_wz.out) (Below.refl _ _).drew) B_d_0.out, pw_cell_below (bt (bt (bt (bt (bt N_w4.out N_w5.out) N_w8.out) N_wy1.out) N_wz.out) (Below.refl _ _).drew) B_d_1.out, pw_cell_below (bt (bt (bt (bt (bt N_w4.out N_w5.out) N_w8.out) N_wy1.out) N_wz.out) (Below.refl _ _).drew) B_d_2.out, pw_cell_below (bt (bt N_wy1.out N_wz.out) (Below.refl _ _).drew) B_x_0.out, pw_cell_below (bt (bt N_wy1.out N_wz.out) (Below.refl _ _).drew) B_x_1.out⟩ (fun hHeld => ?_)
      refine with_tabW fL.tab16 fL.bits16 (fun HT_ HW_ => ?_)
      refine pure_ (i := 1) (N := some 98) (v := ?_) (a' := ?_) #[false, true, false, false, false, false, false, false, false, false, false, false, false] rfl rfl (any_of HT_.out (by kernel_rfl)) (fun _ _ _ h => h) (Or.inl ⟨by rfl, ?_⟩) ?_ ?_
      rotate_left
      · intro w'
        go_simp
        with_reducible rfl
      rotate_left
      · simp only [Act.put, List.setIfInBounds_toArray, List.set_cons_zero, List.set_cons_succ, i64_w, i32_w]
        rfl
      refine take_ (i := 0) (N := some 97) (v := ?_) (a' := ?_) #[true, true, false, false, false, false, false, false, false, false, false, false, false] rfl rfl (take_ofW HT_.out HW_.out (by kernel_rfl)) (fun _ _ _ h => h) (Or.inl ⟨by rfl, ?_⟩) hHeld ?_ ?_
      rotate_left
      · rintro w' ⟨s0, s1, s2, s3, s4, s5, s6⟩
        go_simp
        with_reducible rfl
      rotate_left
      · simp only [Act.put, List.setIfInBounds_toArray, List.set_cons_zero, List.set_cons_succ, i64_w, i32_w]
        rfl
      refine take_ (i := 2) (N := some 99) (v := ?_) (a' := ?_) #[true, true, true, false, false, false, false, false, false, false, false, false, false] rfl rfl (take_ofW HT_.out HW_.out (by kernel_rfl)) (fun _ _ _ h => h) (Or.inl ⟨by rfl, ?_⟩) hHeld ?_ ?_
      rotate_left
      · rintro w' ⟨s0, s1, s2, s3, s4, s5, s6⟩
        go_simp
        with_reducible rfl
      rotate_left
      · simp only [Act.put, List.setIfInBounds_toArray, List.set_cons_zero, List.set_cons_succ, i64_w, i32_w]
        rfl
      refine take_ (i := 4) (N := some 101) (v := ?_) (a' := ?_) #[true, true, true, false, true, false, false, false, false, false, false, false, false] rfl rfl (take_ofW HT_.out HW_.out (by kernel_rfl)) (fun _ _ _ h => h) (Or.inl ⟨by rfl, ?_⟩) hHeld ?_ ?_
      rotate_left
      · rintro w' ⟨s0, s1, s2, s3, s4, s5, s6⟩
        go_simp
        with_reducible rfl
      rotate_left
      · simp only [Act.put, List.setIfInBounds_toArray, List.set_cons_zero, List.set_cons_succ, i64_w, i32_w]
        rfl
      refine one_ (i := 3) (N := some 100) #[true, true, true, true, true, false, false, false, false, false, false, false, false] rfl rfl (one_of HT_.out (by kernel_rfl)) (by decide) (fun K hK => ?_)
      refine goes_ Try.func20 (by kernel_rfl) rfl #[.agg #[.int .i64 n2, .slice A_7 (mrg (lower l s) k).length c_7], .int .i64 s] (by rfl) rfl rfl (by simp only [List.map_toArray, List.map_cons, List.map_nil]; first | rfl | (refine congrArg List.toArray (congr (congrArg List.cons ?_) (congrArg (fun z => [z]) ?_)) <;> first | rfl | go_simp)) ?_
      with_reducible refine (below_is (mrg (lower l s) k) (lower l s) n2 s A_7 c_7 _ (Kd.C_below C_x.out (bt (bt N_wy1.out N_wz.out) (Below.refl wz.heap.size wz).drew)) hl_x RX ll).mono ?_
      rintro e wu0 ⟨A_w, c_w, rfl, hcw, hCw, hu0⟩
      refine ⟨_, rfl, ?_⟩
      refine hK.out _ _ ⟨pw_cell_below hu0 (hHeld.1), pw_cell_below hu0 (hHeld.2.1), pw_cell_below hu0 (hHeld.2.2.1), pw_cell_below hu0 (hHeld.2.2.2.1), pw_cell_below hu0 (hHeld.2.2.2.2.1), pw_cell_below hu0 (hHeld.2.2.2.2.2.1), pw_cell_below hu0 (hHeld.2.2.2.2.2.2)⟩ (fun hHeld => ?_)
      clear hK K
      refine norm_ (a' := ?_) ?_ ?_
      rotate_left
      · show Act.put _ (some 100) _ = _
        simp only [Act.put, List.setIfInBounds_toArray, List.set_cons_zero, List.set_cons_succ, i64_w, i32_w]
        rfl
      refine one_ (i := 5) (N := some 102) #[true, true, true, true, true, true, false, false, false, false, false, false, false] rfl rfl (one_of HT_.out (by kernel_rfl)) (by decide) (fun K hK => ?_)
      refine goes_ Try.func18 (by kernel_rfl) rfl #[.agg #[.int .i64 s, .slice A_w (lower l s).length c_w], .agg #[.int .i64 s, .slice A_b (lower l s).length c_b]] (by rfl) rfl rfl (by simp only [List.map_toArray, List.map_cons, List.map_nil]; first | rfl | (refine congrArg List.toArray (congr (congrArg List.cons ?_) (congrArg (fun z => [z]) ?_)) <;> first | rfl | go_simp)) ?_
      with_reducible refine (same_C (lower l s) s A_w A_b c_w c_b _ hCw hcw (Kd.C_below C_b.out (bt (bt (bt (bt (bt N_w4.out N_w5.out) N_w8.out) N_wy1.out) N_wz.out) (bt (Below.refl wz.heap.size wz).drew hu0))) hl_b).mono ?_
      rintro e wu1 ⟨rfl, hu1⟩
      refine ⟨_, rfl, ?_⟩
      refine hK.out _ _ ⟨pw_cell_below hu1 (hHeld.1), pw_cell_below hu1 (hHeld.2.1), pw_cell_below hu1 (hHeld.2.2.1), pw_cell_below hu1 (hHeld.2.2.2.1), pw_cell_below hu1 (hHeld.2.2.2.2.1), pw_cell_below hu1 (hHeld.2.2.2.2.2.1), pw_cell_below hu1 (hHeld.2.2.2.2.2.2)⟩ (fun hHeld => ?_)
      clear hK K
      refine norm_ (a' := ?_) ?_ ?_
      rotate_left
      · show Act.put _ (some 102) _ = _
        simp only [Act.put, List.setIfInBounds_toArray, List.set_cons_zero, List.set_cons_succ, i64_w, i32_w]
        rfl
      refine pure_ (i := 6) (N := some 103) (v := ?_) (a' := ?_) #[true, true, true, true, true, true, true, false, false, false, false, false, false] rfl rfl (any_of HT_.out (by kernel_rfl)) (fun _ _ _ h => h) (Or.inl ⟨by rfl, ?_⟩) ?_ ?_
      rotate_left
      · intro w'
        go_simp
        with_reducible rfl
      rotate_left
      · simp only [Act.put, List.setIfInBounds_toArray, List.set_cons_zero, List.set_cons_succ, i64_w, i32_w]
        rfl
      refine pure_ (i := 7) (N := some 104) (v := ?_) (a' := ?_) #[true, true, true, true, true, true, true, true, false, false, false, false, false] rfl rfl (any_of HT_.out (by kernel_rfl)) (fun _ _ _ h => h) (Or.inl ⟨by rfl, ?_⟩) ?_ ?_
      rotate_left
      · intro w'
        go_simp
        with_reducible rfl
      rotate_left
      · simp only [Act.put, List.setIfInBounds_toArray, List.set_cons_zero, List.set_cons_succ, i64_w, i32_w]
        rfl
      refine take_ (i := 8) (N := some 105) (v := ?_) (a' := ?_) #[true, true, true, true, true, true, true, true, true, false, false, false, false] rfl rfl (take_ofW HT_.out HW_.out (by kernel_rfl)) (fun _ _ _ h => h) (Or.inl ⟨by rfl, ?_⟩) hHeld ?_ ?_
      rotate_left
      · rintro w' ⟨s0, s1, s2, s3, s4, s5, s6⟩
        go_simp
        with_reducible rfl
      rotate_left
      · simp only [Act.put, List.setIfInBounds_toArray, List.set_cons_zero, List.set_cons_succ, i64_w, i32_w]
        rfl
      refine take_ (i := 9) (N := some 106) (v := ?_) (a' := ?_) #[true, true, true, true, true, true, true, true, true, true, false, false, false] rfl rfl (take_ofW HT_.out HW_.out (by kernel_rfl)) (fun _ _ _ h => h) (Or.inl ⟨by rfl, ?_⟩) hHeld ?_ ?_
      rotate_left
      · rintro w' ⟨s0, s1, s2, s3, s4, s5, s6⟩
        go_simp
        with_reducible rfl
      rotate_left
      · simp only [Act.put, List.setIfInBounds_toArray, List.set_cons_zero, List.set_cons_succ, i64_w, i32_w]
        rfl
      refine one_ (i := 10) (N := some 107) #[true, true, true, true, true, true, true, true, true, true, true, false, false] rfl rfl (one_of HT_.out (by kernel_rfl)) (by decide) (fun K hK => ?_)
      refine goes_ Try.func22 (by kernel_rfl) rfl #[.agg #[.int .i64 n2, .slice B k.length d], .agg #[.int .i64 n2, .slice A_7 (mrg (lower l s) k).length c_7]] (by rfl) rfl rfl (by simp only [List.map_toArray, List.map_cons, List.map_nil]; first | rfl | (refine congrArg List.toArray (congr (congrArg List.cons ?_) (congrArg (fun z => [z]) ?_)) <;> first | rfl | go_simp)) ?_
      with_reducible refine (inside_is k (mrg (lower l s) k) n2 n2 B A_7 d c_7 _ (Kd.C_below C_k.out (bt (bt (bt (bt (bt (bt N_w3.out N_w4.out) N_w5.out) N_w8.out) N_wy1.out) N_wz.out) (bt (bt (Below.refl wz.heap.size wz).drew hu0) hu1))) hm (Kd.C_below C_x.out (bt (bt N_wy1.out N_wz.out) (bt (bt (Below.refl wz.heap.size wz).drew hu0) hu1))) hl_x li).mono ?_
      rintro e wu2 ⟨rfl, hu2⟩
      refine ⟨_, rfl, ?_⟩
      refine hK.out _ _ ⟨pw_cell_below hu2 (hHeld.1), pw_cell_below hu2 (hHeld.2.1), pw_cell_below hu2 (hHeld.2.2.1), pw_cell_below hu2 (hHeld.2.2.2.1), pw_cell_below hu2 (hHeld.2.2.2.2.1), pw_cell_below hu2 (hHeld.2.2.2.2.2.1), pw_cell_below hu2 (hHeld.2.2.2.2.2.2)⟩ (fun hHeld => ?_)
      clear hK K
      refine norm_ (a' := ?_) ?_ ?_
      rotate_left
      · show Act.put _ (some 107) _ = _
        simp only [Act.put, List.setIfInBounds_toArray, List.set_cons_zero, List.set_cons_succ, i64_w, i32_w]
        rfl
      refine pure_ (i := 11) (N := some 108) (v := ?_) (a' := ?_) #[true, true, true, true, true, true, true, true, true, true, true, true, false] rfl rfl (any_of HT_.out (by kernel_rfl)) (fun _ _ _ h => h) (Or.inl ⟨by rfl, ?_⟩) ?_ ?_
      rotate_left
      · intro w'
        go_simp
        with_reducible rfl
      rotate_left
      · simp only [Act.put, List.setIfInBounds_toArray, List.set_cons_zero, List.set_cons_succ, i64_w, i32_w]
        rfl
      refine pure_ (i := 12) (N := some 6) (v := ?_) (a' := ?_) #[true, true, true, true, true, true, true, true, true, true, true, true, true] rfl rfl (any_of HT_.out (by kernel_rfl)) (fun _ _ _ h => h) (Or.inl ⟨by rfl, ?_⟩) ?_ ?_
      rotate_left
      · intro w'
        go_simp
        with_reducible rfl
      rotate_left
      · simp only [Act.put, List.setIfInBounds_toArray, List.set_cons_zero, List.set_cons_succ, i64_w, i32_w]
        rfl
      refine done_ (done_of HT_.out (by kernel_rfl)) ?_
      have N_wu2 := Lib.hid (bt (bt (bt (Below.refl wz.heap.size wz).drew hu0) hu1) hu2)
      go_wp2
      go_ret
      exact ⟨rfl, (bt (bt (bt (bt (bt (bt N_w3.out N_w4.out) N_w5.out) N_w8.out) N_wy1.out) N_wz.out) N_wu2.out)⟩
end Go.Proofs.Ytbhdehkdnenigaa

set_option linter.unusedVariables false
namespace Go.Proofs.Ytbhdehkdnenigaa
open Go.RowKit Go.Proofs.YtbhdehkdnenigaaW.PrintWords
theorem laid_any (l k : List Vn) (nb s n2 : Int) (A B : Option Addr) (c d : Nat) (f : Bool) (w : World) (hC : kVn.C w A l.length l) (hl : l.length ≤ c) (HR : Room l) (hD : kVn.C w B k.length k) (hm : k.length ≤ d) (HQ : Room k) :
    Calls Try.prog 6 #[.agg #[.int .i64 nb, .slice A l.length c], .agg #[.int .i64 s, .int .i64 n2, .slice B k.length d], .bool f] w fun e w' => e = .returned (.bool true) ∧ Below w.heap.size w w' := by
  cases f with
  | false => exact laid_false l k nb s n2 A B c d w hC hl HR hD hm HQ
  | true => exact laid_true l k nb s n2 A B c d w hC hl HR hD hm HQ
end Go.Proofs.Ytbhdehkdnenigaa

set_option linter.unusedVariables false
set_option linter.unusedSimpArgs false
namespace Go.Proofs.Ytbhdehkdnenigaa
open Go.ChangeShapes Go.WideShapes Go.ChangeAt Go.RowKit
theorem own : ownKnob Try.prog.godebug = none := by kernel_rfl
theorem laidOut : laidOutB Try.prog = true := by kernel_rfl
theorem trodAll_below {H : Type} {enc : TypeId × Value → H} {W W' : World} (hb : Below W.heap.size W W') : ∀ (ts : List TypeId) (vs : List Value) (ds : List (DataW H)) (ps : List MemPlace),
    (∀ t ∈ ts, Try.prog.readableRec t = true ∧ t < Try.prog.types.size) → DataW.TrodAll enc Try.prog W 0 (fun _ => true) true ts vs ds ps → (∀ x ∈ ps, x.block < W.heap.size) →
    DataW.TrodAll enc Try.prog W' 0 (fun b => decide (b < W.heap.size)) true ts vs ds ps
  | [], [], [], _, _, h, _ => h
  | t :: ts, v :: vs, d :: ds, ps, hr, ⟨p, q, h1, h2, e⟩, hlt => by
    subst e
    have ht := hr t List.mem_cons_self
    exact ⟨p, q, Below.trod laidOut ht.1 ht.2 h1 hb (fun x hx => hlt x (List.mem_append_left _ hx)), trodAll_below hb ts vs ds q (fun x hx => hr x (List.mem_cons_of_mem _ hx)) h2 (fun x hx => hlt x (List.mem_append_right _ hx)), rfl⟩
  | [], _ :: _, _, _, _, h, _ => h.elim
  | [], [], _ :: _, _, _, h, _ => h.elim
  | _ :: _, [], _, _, _, h, _ => h.elim
  | _ :: _, _ :: _, [], _, _, h, _ => h.elim
theorem law_post {H : Type} {enc : TypeId × Value → H} {s : ChangeSpec} {f : Func} {apart fresh handsOn : Bool} {W W' : World} {args : Array Value} {ds gs : List (DataW H)} {before : List MemPlace} {tb : TypeId}
    (hvars : s.vars = []) (hr : ∀ t ∈ f.params.toList, Try.prog.readableRec t = true ∧ t < Try.prog.types.size) (hres : f.resultTypes = #[tb]) (hbool : Try.prog.underlying tb = some .bool)
    (hfn : (s.fn H (ds ++ gs)).results = [.lit (.bool true)] ∧ (s.fn H (ds ++ gs)).args = ds ∧ (s.fn H (ds ++ gs)).vars = [])
    (hW : DataW.Whole enc Try.prog f.params.toList s.vars apart W args.toList ds gs before) (hb : Below W.heap.size W W') :
    s.post enc Try.prog f apart fresh handsOn false W args (.bool true) W' := by
  have hW' := hW
  have hlt := hW.lt
  obtain ⟨p, q, hA, hV, rfl, hfz, hnd⟩ := hW
  refine ⟨ds, gs, _, [], p, [], hW', ?_, ?_, ?_, hb.frame _, fun h => by cases h⟩
  · rw [hfn.1, hres]
    exact trodAll_mk1 (shut_bool hbool true)
  · rw [hfn.2.1]
    exact trodAll_below hb _ _ _ _ hr hA (fun x hx => hlt x (List.mem_append_left _ hx))
  · rw [hfn.2.2, hvars]
    rfl
end Go.Proofs.Ytbhdehkdnenigaa

set_option linter.unusedVariables false
set_option linter.unusedSimpArgs false
namespace Go.Proofs.Ytbhdehkdnenigaa
open Go.RowKit Go.ChangeShapes Go.WideShapes Go.Deep Go.Proofs.YtbhdehkdnenigaaW.PrintWords
section
variable {H : Type} {enc : TypeId × Value → H} {w : World} {base : Nat} {spare : Nat → Bool} {held : Bool}
abbrev Light (t : TypeId) (d : DataW H) : Prop := ∀ n ∈ d.weights Try.prog t, n ≤ reachBytes
theorem open_rows {α : Type} (d : Kd α) {t e : TypeId} {fuel B : Nat} {cs : List Value} {x : DataW H × List MemPlace} (ht : Try.prog.underlying t = some (.slice e)) (hC : Try.prog.cellsOf e = d.sz) (hB : Try.prog.bytesOf e = B) (Q : α → Prop)
    (hel : ∀ n cs' y, DataW.trod enc Try.prog w base spare held n e cs' = some y → Light e y.1 → ∃ a, d.K w a cs' ∧ Q a)
    (h : DataW.trod enc Try.prog w base spare held fuel t cs = some x) (hwt : Light t x.1) :
    ∃ (A : Option Addr) (c : Nat) (l : List α), cs = [.slice A l.length c] ∧ l.length ≤ c ∧ d.C w A l.length l ∧ l.length * B ≤ reachBytes ∧ ∀ a ∈ l, Q a := by
  rcases open_slice ht h with ⟨hcs, _⟩ | ⟨a, len, cap, m, n, D, Pl, hcs, hb, hl, hm, hmm, hx, hi⟩
  · exact ⟨none, 0, [], hcs, Nat.le_refl _, ⟨rfl, by simp, fun h => absurd h (by simp)⟩, by simp, fun a ha => by cases ha⟩
  · subst hx
    have hlm : len ≤ m := by rw [hmm]; split <;> omega
    have hw1 : (len + (m - len)) * Try.prog.bytesOf e ≤ reachBytes := by
      have := hwt _ (by simp only [DataW.weights, ht, List.length_map, List.length_range]; exact List.mem_cons_self)
      exact this
    have hw2 : ∀ i, i < len → Light e (D i) := fun i hi k hk => by
      apply hwt
      simp only [DataW.weights, ht]
      refine List.mem_cons_of_mem _ (List.mem_append_left _ ?_)
      have : ∀ (l : List (DataW H)) (z : DataW H), z ∈ l → ∀ k ∈ z.weights Try.prog e, k ∈ DataW.weightsAll Try.prog e l := by
        intro l
        induction l with
        | nil => intro z hz; cases hz
        | cons y r ih =>
          intro z hz k hk
          simp only [DataW.weightsAll, List.mem_append]
          rcases List.mem_cons.1 hz with rfl | hz
          · exact .inl hk
          · exact .inr (ih z hz k hk)
      exact this _ (D i) (List.mem_map_of_mem (List.mem_range.2 hi)) k hk
    have key : ∀ i : Nat, ∃ p : Option α, i < len → ∃ q cs', p = some q ∧ d.K w q cs' ∧ Q q ∧ cs'.length = d.sz ∧ ∀ j u, cs'[j]? = some u → w.cell? (a.add (i * d.sz + j)) = some u := fun i => by
      by_cases hlt : i < len
      · obtain ⟨cs', hc, ht'⟩ := hi i (by omega)
        obtain ⟨q, hk, hq⟩ := hel n cs' _ ht' (hw2 i hlt)
        obtain ⟨_, hcl, hat⟩ := World.cells?_some hc
        refine ⟨some q, fun _ => ⟨q, cs', rfl, hk, hq, by rw [hcl, hC], fun j u hu => ?_⟩⟩
        have hj : j < cs'.length := by
          rcases Nat.lt_or_ge j cs'.length with h | h
          · exact h
          · rw [List.getElem?_eq_none h] at hu; cases hu
        rw [← hC, ← Go.Deep.add_add, hat j (by omega), hu]
      · exact ⟨none, fun h => absurd h hlt⟩
    obtain ⟨f, hf⟩ := Classical.axiomOfChoice key
    have hlen : ((List.range len).filterMap f).length = len ∧ ∀ i, i < len → ((List.range len).filterMap f)[i]? = f i := by
      have hall : ∀ k, k ≤ len → ((List.range k).filterMap f).length = k ∧ ∀ i, i < k → ((List.range k).filterMap f)[i]? = f i := by
        intro k
        induction k with
        | zero => intro _; exact ⟨rfl, fun i hi => absurd hi (Nat.not_lt_zero _)⟩
        | succ k ih =>
          intro hk
          obtain ⟨h1, h2⟩ := ih (by omega)
          obtain ⟨q, _, e, _⟩ := hf k (by omega)
          rw [List.range_succ, List.filterMap_append]
          have e1 : List.filterMap f [k] = [q] := by simp [e]
          rw [e1]
          refine ⟨by rw [List.length_append, h1]; rfl, fun i hi => ?_⟩
          rcases Nat.lt_or_ge i k with h | h
          · rw [List.getElem?_append_left (by omega)]; exact h2 i h
          · obtain rfl : i = k := by omega
            rw [List.getElem?_append_right (by omega), h1, Nat.sub_self, e]; rfl
      exact hall len (Nat.le_refl _)
    refine ⟨some a, cap, (List.range len).filterMap f, by rw [hlen.1]; exact hcs, by rw [hlen.1]; exact hl, ?_, ?_, ?_⟩
    · rw [hlen.1]
      refine ⟨hlen.1, by have : maxLen = 9223372036854775807 := rfl; omega, fun _ => ⟨a, rfl, fun j p hj => ?_⟩⟩
      have hjl : j < len := by
        rcases Nat.lt_or_ge j len with h | h
        · exact h
        · rw [List.getElem?_eq_none (by rw [hlen.1]; exact h)] at hj; cases hj
      rw [hlen.2 j hjl] at hj
      obtain ⟨q, cs', e, hk, hq, hcl, hat⟩ := hf j hjl
      rw [e] at hj
      cases hj
      exact ⟨cs', hcl, hk, hat⟩
    · rw [hlen.1]
      rw [hB] at hw1
      exact Nat.le_trans (Nat.mul_le_mul_right _ (by omega)) hw1
    · intro z hz
      obtain ⟨i, hi, hzi⟩ := List.getElem_of_mem hz
      have hil : i < len := by rw [hlen.1] at hi; exact hi
      have h3 := hlen.2 i hil
      rw [List.getElem?_eq_getElem hi, hzi] at h3
      obtain ⟨q, cs', e, hk, hq, _⟩ := hf i hil
      rw [e] at h3
      cases h3
      exact hq
theorem open_fields {t : TypeId} {fs : Array Field} {fuel : Nat} {cs : List Value} {x : DataW H × List MemPlace} (ht : Try.prog.underlying t = some (.struct fs)) (hone : oneCellFields Try.prog fs = true) (hC : Try.prog.cellsOf t = fs.size)
    (h : DataW.trod enc Try.prog w base spare held fuel t cs = some x) (hwt : Light t x.1) :
    cs.length = fs.size ∧ ∃ (ys : List (DataW H × List MemPlace)) (n : Nat), x.1 = .agg (ys.map (·.1)) ∧ ys.length = fs.size ∧
      ∀ (j : Nat) (f : Field), fs[j]? = some f → ∃ (v : Value) (y : DataW H × List MemPlace), cs[j]? = some v ∧ ys[j]? = some y ∧ DataW.trod enc Try.prog w base spare held n f.type [v] = some y ∧ Light f.type y.1 := by
  obtain ⟨ys, n, _, hx, hcl, hyl, hf⟩ := DataW.trod_struct ht h
  subst hx
  refine ⟨by rw [hcl, hC], ys, n, rfl, hyl, fun j f hj => ?_⟩
  obtain ⟨ho, hk⟩ := hone_of hone j f hj
  have hjl : j < fs.size := (Array.getElem?_eq_some_iff.1 hj).1
  have hjc : j < cs.length := by rw [hcl, hC]; exact hjl
  have hjy : j < ys.length := by rw [hyl]; exact hjl
  have h1 := hf j f hj
  rw [ho, hk] at h1
  have hone' : (cs.drop j).take 1 = [cs[j]] := by
    rw [List.drop_eq_getElem_cons hjc]
    rfl
  rw [hone', List.getElem?_eq_getElem hjy] at h1
  refine ⟨cs[j], ys[j], List.getElem?_eq_getElem hjc, List.getElem?_eq_getElem hjy, h1, fun k hk => ?_⟩
  apply hwt
  simp only [DataW.weights, ht]
  exact DataW.weights_mem_each (j := j) (t := f.type) (d := ys[j].1) (by rw [List.getElem?_map, Array.getElem?_toList, hj]; rfl) (by rw [List.getElem?_map, List.getElem?_eq_getElem hjy]; rfl) k hk
theorem open_text {n : Nat} {v : Value} {y : DataW H × List MemPlace} (h : DataW.trod enc Try.prog w base spare held n 9 [v] = some y) (hw : Light 9 y.1) : ∃ s : ByteArray, v = .string s ∧ s.size ≤ 140737488355328 := by
  obtain ⟨s, e, rfl, _⟩ := DataW.trod_string Try.underlying9 h
  cases e
  refine ⟨s, rfl, ?_⟩
  have := hw s.data.toList.length (by simp [DataW.weights])
  rw [Array.length_toList] at this
  have h2 : s.size = s.data.size := rfl
  unfold reachBytes at this
  omega
theorem open_num {n : Nat} {v : Value} {y : DataW H × List MemPlace} (h : DataW.trod enc Try.prog w base spare held n 2 [v] = some y) : ∃ z : Int, v = .int .i64 z ∧ (Lit.int .i64 z).wf = true := by
  obtain ⟨z, e, _, hz⟩ := DataW.trod_int Try.underlying2 h
  cases e
  exact ⟨z, rfl, hz⟩
theorem open_truth {n : Nat} {v : Value} {y : DataW H × List MemPlace} (h : DataW.trod enc Try.prog w base spare held n 4 [v] = some y) : ∃ b : Bool, v = .bool b := by
  obtain ⟨b, e, _⟩ := DataW.trod_bool Try.underlying4 h
  cases e
  exact ⟨b, rfl⟩
theorem open_pair {n : Nat} {cs : List Value} {y : DataW H × List MemPlace} (h : DataW.trod enc Try.prog w base spare held n 60 cs = some y) (hw : Light 60 y.1) : ∃ p : Pr, kPr.K w p cs ∧ (p.n.size ≤ 140737488355328 ∧ p.v.size ≤ 140737488355328) := by
  obtain ⟨hl, ys, m, _, _, hf⟩ := open_fields Try.underlying60 (by kernel_rfl) (by kernel_rfl) h hw
  obtain ⟨v0, y0, e0, _, t0, w0⟩ := hf 0 _ rfl
  obtain ⟨v1, y1, e1, _, t1, w1⟩ := hf 1 _ rfl
  obtain ⟨a, rfl, ha⟩ := open_text t0 w0
  obtain ⟨b, rfl, hb⟩ := open_text t1 w1
  match cs, hl, e0, e1 with
  | [c0, c1], _, e0, e1 =>
    cases e0
    cases e1
    exact ⟨⟨a, b⟩, kPr_mk w ⟨a, b⟩, ha, hb⟩
def VnOk (x : Vn) : Prop := x.Fits ∧ x.pairs.length * 32 ≤ 140737488351232 ∧ (Lit.int .i64 x.seq).wf = true
theorem open_version {n : Nat} {cs : List Value} {y : DataW H × List MemPlace} (h : DataW.trod enc Try.prog w base spare held n 48 cs = some y) (hw : Light 48 y.1) : ∃ x : Vn, kVn.K w x cs ∧ VnOk x := by
  obtain ⟨hl, ys, m, _, _, hf⟩ := open_fields Try.underlying48 (by kernel_rfl) (by kernel_rfl) h hw
  obtain ⟨v0, y0, e0, _, t0, w0⟩ := hf 0 _ rfl
  obtain ⟨v1, y1, e1, _, t1, w1⟩ := hf 1 _ rfl
  obtain ⟨v2, y2, e2, _, t2, w2⟩ := hf 2 _ rfl
  obtain ⟨v3, y3, e3, _, t3, w3⟩ := hf 3 _ rfl
  obtain ⟨v4, y4, e4, _, t4, w4⟩ := hf 4 _ rfl
  obtain ⟨a, rfl, ha⟩ := open_text t0 w0
  obtain ⟨z, rfl, hz⟩ := open_num t1
  obtain ⟨g, rfl⟩ := open_truth t2
  obtain ⟨b, rfl, hb⟩ := open_text t3 w3
  obtain ⟨A, c, l, e, hc, hC, hB, hQ⟩ := open_rows kPr Try.underlying46 (by kernel_rfl) (by kernel_rfl : _ = 32) (fun p : Pr => p.n.size ≤ 140737488355328 ∧ p.v.size ≤ 140737488355328) (fun n cs' y h hw => open_pair h hw) t4 w4
  cases e
  match cs, hl, e0, e1, e2, e3, e4 with
  | [c0, c1, c2, c3, c4], _, e0, e1, e2, e3, e4 =>
    cases e0
    cases e1
    cases e2
    cases e3
    cases e4
    exact ⟨⟨a, z, g, b, l⟩, kVn_mk w ⟨a, z, g, b, l⟩ hc hC, ⟨ha, hb, hQ⟩, hB, hz⟩
def BkOk (l : List Vn) : Prop := ∀ x ∈ l, (Lit.int .i64 x.seq).wf = true
theorem open_bucket {n : Nat} {cs : List Value} {y : DataW H × List MemPlace} (h : DataW.trod enc Try.prog w base spare held n 24 cs = some y) (hw : Light 24 y.1) :
    ∃ (nx : Int) (A : Option Addr) (c : Nat) (l : List Vn), cs = [.int .i64 nx, .slice A l.length c] ∧ (Lit.int .i64 nx).wf = true ∧ l.length ≤ c ∧ kVn.C w A l.length l ∧ Room l ∧ BkOk l := by
  obtain ⟨hl, ys, m, _, _, hf⟩ := open_fields Try.underlying24 (by kernel_rfl) (by kernel_rfl) h hw
  obtain ⟨v0, y0, e0, _, t0, w0⟩ := hf 0 _ rfl
  obtain ⟨v1, y1, e1, _, t1, w1⟩ := hf 1 _ rfl
  obtain ⟨z, rfl, hz⟩ := open_num t0
  obtain ⟨A, c, l, e, hc, hC, hB, hQ⟩ := open_rows kVn Try.underlying22 (by kernel_rfl) (by kernel_rfl : _ = 72) VnOk (fun n cs' y h hw => open_version h hw) t1 w1
  cases e
  match cs, hl, e0, e1 with
  | [c0, c1], _, e0, e1 =>
    cases e0
    cases e1
    exact ⟨z, A, c, l, rfl, hz, hc, hC, ⟨hB, fun x hx => (hQ x hx).2.1, fun x hx => (hQ x hx).1⟩, fun x hx => (hQ x hx).2.2⟩
theorem light_of {ts : List TypeId} {ds : List (DataW H)} (hz : (DataW.weightsEach Try.prog ts ds).all (· ≤ reachBytes) = true) {j : Nat} {t : TypeId} {d : DataW H} (ht : ts[j]? = some t) (hd : ds[j]? = some d) : Light t d := fun n hn => by
  have := List.all_eq_true.1 hz n (DataW.weights_mem_each ht hd n hn)
  simpa using this
theorem open_bucket_arg {r : Reach} {b0 : Nat} {v : Value} {d : DataW H} {p : List MemPlace} (hv : Value.okWide Try.prog w r b0 24 v) (h : DataW.Trod enc Try.prog w base spare held 24 v d p) (hw : Light 24 d) :
    ∃ (nx : Int) (A : Option Addr) (c : Nat) (l : List Vn), v = .agg #[.int .i64 nx, .slice A l.length c] ∧ (Lit.int .i64 nx).wf = true ∧ l.length ≤ c ∧ kVn.C w A l.length l ∧ Room l ∧ BkOk l := by
  obtain ⟨cs, rfl, hsz⟩ := okWide_struct Try.underlying24 hv
  obtain ⟨fuel, hf⟩ := h
  obtain ⟨nx, A, c, l, e, r⟩ := open_bucket hf hw
  obtain ⟨cs⟩ := cs
  have e2 : cs = [.int .i64 nx, .slice A l.length c] := e
  subst e2
  exact ⟨nx, A, c, l, rfl, r⟩
theorem open_delta_arg {r : Reach} {b0 : Nat} {v : Value} {d : DataW H} {p : List MemPlace} (hv : Value.okWide Try.prog w r b0 27 v) (h : DataW.Trod enc Try.prog w base spare held 27 v d p) (hw : Light 27 d) :
    ∃ (s nx : Int) (A : Option Addr) (c : Nat) (l : List Vn), v = .agg #[.int .i64 s, .int .i64 nx, .slice A l.length c] ∧ (Lit.int .i64 s).wf = true ∧ (Lit.int .i64 nx).wf = true ∧ l.length ≤ c ∧ kVn.C w A l.length l ∧ Room l ∧ BkOk l := by
  obtain ⟨cs, rfl, hsz⟩ := okWide_struct Try.underlying27 hv
  obtain ⟨fuel, hf⟩ := h
  obtain ⟨cs⟩ := cs
  have hC3 : Try.prog.cellsOf 27 = 3 := by kernel_rfl
  match cs, hsz.trans hC3 with
  | [c0, c1, c2], _ =>
    obtain ⟨ys, n, _, hx, _, hlen, hg⟩ := DataW.trod_struct Try.underlying27 hf
    have k0 : Try.prog.cellsOf 2 = 1 := by kernel_rfl
    have k1 : Try.prog.cellsOf 24 = 2 := by kernel_rfl
    match ys, hlen with
    | [y0, y1], _ =>
      simp only [Prod.mk.injEq] at hx
      obtain ⟨rfl, _⟩ := hx
      have g0 : DataW.trod enc Try.prog w base spare held n 2 [c0] = some y0 := by simpa [Value.cells, k0] using hg 0 _ rfl
      have g1 : DataW.trod enc Try.prog w base spare held n 24 [c1, c2] = some y1 := by simpa [Value.cells, k1] using hg 1 _ rfl
      have hw1 : Light 24 y1.1 := fun k hk => by
        apply hw
        simp only [DataW.weights, Try.underlying27]
        exact DataW.weights_mem_each (j := 1) (t := 24) (d := y1.1) rfl rfl k hk
      obtain ⟨s, rfl, hs⟩ := open_num g0
      obtain ⟨nx, A, c, l, e, r⟩ := open_bucket g1 hw1
      cases e
      exact ⟨s, nx, A, c, l, rfl, hs, r⟩
end
end Go.Proofs.Ytbhdehkdnenigaa

namespace Go.Proofs.Ytbhdehkdnenigaa.lawDeltaLaid
open Go.ChangeShapes Go.WideShapes Go.ChangeAt Go.RowKit
set_option linter.unusedVariables false
set_option linter.unusedSimpArgs false
theorem contract (H : Type) (enc : TypeId × Value → H) (W : World) (base : Nat) (args : Array Value) (ds gs : List (DataW H)) (before : List MemPlace)
    (hval : ∀ (j : Nat) t v, Try.f6.params[j]? = some t → args[j]? = some v → Value.okWide Try.prog W .any base t v)
    (hW : DataW.Whole enc Try.prog Try.f6.params.toList Rows.deltaLaidSpec.vars false W args.toList ds gs before)
    (hz : (DataW.weightsEach Try.prog (Try.f6.params.toList ++ ([] : List TypeId)) (ds ++ gs)).all (· ≤ reachBytes) = true) :
    Calls Try.prog 6 args W fun e W' => ∃ v, e = .returned v ∧ Rows.deltaLaidSpec.post enc Try.prog Try.f6 false true false false W args v W' := by
  have hW' := hW
  obtain ⟨p, q, hA0, hV, rfl, hfz, hnd⟩ := hW
  have hA : DataW.TrodAll enc Try.prog W 0 (fun _ => true) true Try.f6.params.toList args.toList ds p := hA0
  rw [Try.params6] at hA hval hz
  obtain ⟨v0, vs0, d0, ds0, p0, q0, hargs, rfl, rfl, h0, r0⟩ := trodAll_cons hA
  obtain ⟨v1, vs1, d1, ds1, p1, q1, rfl, rfl, rfl, h1, r1⟩ := trodAll_cons r0
  obtain ⟨v2, vs2, d2, ds2, p2, q2, rfl, rfl, rfl, h2, r2⟩ := trodAll_cons r1
  obtain ⟨rfl, rfl, rfl⟩ := trodAll_nil r2
  obtain rfl : args = #[v0, v1, v2] := by cases args; simp_all
  obtain ⟨rfl, rfl⟩ := trodVars_none hV
  obtain ⟨n0, A0, c0, l0, rfl, w0, hl0, hC0, R0, B0⟩ := open_bucket_arg (hval 0 24 v0 rfl rfl) h0 (light_of hz (j := 0) rfl rfl)
  obtain ⟨s1, n1, A1, c1, l1, rfl, w1, u1, hl1, hC1, R1, B1⟩ := open_delta_arg (hval 1 27 v1 rfl rfl) h1 (light_of hz (j := 1) rfl rfl)
  obtain ⟨a2, rfl, rfl, rfl⟩ := open_bool Try.underlying4 (hval 2 4 v2 rfl rfl) h2
  clear hA0
  have hc : Calls Try.prog 6 #[.agg #[.int .i64 n0, .slice A0 l0.length c0], .agg #[.int .i64 s1, .int .i64 n1, .slice A1 l1.length c1], .bool a2] W fun e W' => e = .returned (.bool true) ∧ Below W.heap.size W W' := laid_any l0 l1 n0 s1 n1 A0 A1 c0 c1 a2 W hC0 hl0 R0 hC1 hl1 R1
  exact hc.mono fun e W' ⟨he, hb⟩ => ⟨_, he, law_post rfl (by rw [Try.params6]; decide +kernel) (tb := 4) (by kernel_rfl) Try.underlying4 ⟨rfl, rfl, rfl⟩ hW' hb⟩
set_option maxRecDepth 100000 in
theorem lifted (os : Os) (started : os.Started) (H : Type) (enc : TypeId × Value → H) :
    ReturnsInHanded {} Try.checked os 6 .any (Rows.deltaLaidSpec.pre6 enc Try.prog Try.f6 Rows.deltaLaidRow.domain false) (Rows.deltaLaidSpec.post enc Try.prog Try.f6 false true false false) := by
  refine returnsInHanded_of_change_sized (C := Try.checked) own started (by kernel_rfl) Try.func6
    (ChangeSpec.witness6 (enc := enc) (C := Try.checked) false ⟨#[], #[.agg #[.int .i64 0, .slice none 0 0], .agg #[.int .i64 0, .int .i64 0, .slice none 0 0], .bool false], []⟩ 8 (by kernel_rfl) (by kernel_rfl) (by kernel_rfl) (by kernel_rfl)) ?_
  intro W base args ds gs before hval hW hcnd hsz _
  exact contract H enc W base args ds gs before hval hW hsz
theorem proved : Rows.DeltaLaidSaid :=
  OpenClaim.holds_of_wide 6 Try.f6 rfl rfl rfl rfl rfl rfl rfl ⟨rfl, rfl, rfl, rfl, rfl⟩ rfl rfl rfl rfl rfl (by kernel_rfl) Try.func6 (by kernel_rfl)
    (of_decide_eq_true (by kernel_rfl)) (by unfold Func.isWrapper; first | (rw [if_pos (by decide +kernel)]; kernel_rfl) | (rw [if_neg (by decide +kernel)]; exact ⟨rfl, rfl⟩))
    (fun os started H enc _ => lifted os started H enc)
end Go.Proofs.Ytbhdehkdnenigaa.lawDeltaLaid

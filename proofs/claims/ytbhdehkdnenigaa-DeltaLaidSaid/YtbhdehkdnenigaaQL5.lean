/- Walk: the law DeltaLaid. -/
import Derived.Test.YtbhdehkdnenigaaQL4
set_option linter.unusedVariables false
set_option linter.unusedSimpArgs false
namespace Go.Proofs.Ytbhdehkdnenigaa
open Go.RowKit Go.Proofs.YtbhdehkdnenigaaW.PrintWords Go.Proofs.YtbhdehkdnenigaaW.PrintLast

set_option maxRecDepth 100000 in
set_option maxHeartbeats 16000000 in
theorem laid_false (l k : List Vn) (nb s n2 : Int) (A B : Option Addr) (c d : Nat) (w : World) (hC : kVn.C w A l.length l) (hl : l.length ≤ c) (HR : Room l) (hD : kVn.C w B k.length k) (hm : k.length ≤ d) (HQ : Room k) :
    Calls Try.prog 6 #[.agg #[.int .i64 nb, .slice A l.length c], .agg #[.int .i64 s, .int .i64 n2, .slice B k.length d], .bool false] w fun e w' => e = .returned (.bool true) ∧ Below w.heap.size w w' := by
  have C_l := Lib.hid hC
  have C_k := Lib.hid hD
  clear hC hD
  go_enter Try.func6, Try.ntmps6
  go_upto_region 5 with (first | (go_at_call 8; with_reducible refine (first_any _).mono ?_; rintro e w1 ⟨rfl, hb⟩; have N_w1 := Lib.hid (bt (below2 w _ _) hb); have B_v_0 : Hid (World.cell? w1 ⟨w.heap.size, 0, none⟩ = some (.int .i64 nb)) := Lib.hid (pw_cell_below hb (by simp [go_sem])); have B_v_1 : Hid (World.cell? w1 ⟨w.heap.size, 1, none⟩ = some (.slice A l.length c)) := Lib.hid (pw_cell_below hb (by simp [go_sem])); have B_d_0 : Hid (World.cell? w1 ⟨w.heap.size + 1, 0, none⟩ = some (.int .i64 s)) := Lib.hid (pw_cell_below hb (by simp [go_sem])); have B_d_1 : Hid (World.cell? w1 ⟨w.heap.size + 1, 1, none⟩ = some (.int .i64 n2)) := Lib.hid (pw_cell_below hb (by simp [go_sem])); have B_d_2 : Hid (World.cell? w1 ⟨w.heap.size + 1, 2, none⟩ = some (.slice B k.length d)) := Lib.hid (pw_cell_below hb (by simp [go_sem])); clear hb))
  have Rb := HR
  cases hr : rightV l nb with
  | false =>
    have V_v_0 : World.cell? w1 ⟨w.heap.size, 0, none⟩ = some (.int .i64 nb) := pw_cell_below (Below.refl _ _) B_v_0.out
    have V_v_1 : World.cell? w1 ⟨w.heap.size, 1, none⟩ = some (.slice A l.length c) := pw_cell_below (Below.refl _ _) B_v_1.out
    go_wp2_with (first
      | (go_at_call 12; with_reducible refine (right_is l nb A c _ (Kd.C_below C_l.out N_w1.out) hl Rb.fits hr).mono ?_; rintro e w4 ⟨rfl, hb⟩; clear V_v_0 V_v_1; have N_w4 := Lib.hid (bt (x := w1) (Below.refl _ _) hb); have V_d_0 : World.cell? w4 ⟨w.heap.size + 1, 0, none⟩ = some (.int .i64 s) := pw_cell_below N_w4.out B_d_0.out; have V_d_1 : World.cell? w4 ⟨w.heap.size + 1, 1, none⟩ = some (.int .i64 n2) := pw_cell_below N_w4.out B_d_1.out; have V_d_2 : World.cell? w4 ⟨w.heap.size + 1, 2, none⟩ = some (.slice B k.length d) := pw_cell_below N_w4.out B_d_2.out; clear hb)
      )
    go_ret
    exact ⟨rfl, (bt N_w1.out N_w4.out)⟩
  | true =>
    have rt := (right_iff _ _).1 hr
    cases hd : rightD k n2 s with
    | false =>
      have V_v_0 : World.cell? w1 ⟨w.heap.size, 0, none⟩ = some (.int .i64 nb) := pw_cell_below (Below.refl _ _) B_v_0.out
      have V_v_1 : World.cell? w1 ⟨w.heap.size, 1, none⟩ = some (.slice A l.length c) := pw_cell_below (Below.refl _ _) B_v_1.out
      go_wp2_with (first
        | (go_at_call 12; with_reducible refine (right_is l nb A c _ (Kd.C_below C_l.out N_w1.out) hl Rb.fits hr).mono ?_; rintro e w4 ⟨rfl, hb⟩; clear V_v_0 V_v_1; have N_w4 := Lib.hid (bt (x := w1) (Below.refl _ _) hb); have V_d_0 : World.cell? w4 ⟨w.heap.size + 1, 0, none⟩ = some (.int .i64 s) := pw_cell_below N_w4.out B_d_0.out; have V_d_1 : World.cell? w4 ⟨w.heap.size + 1, 1, none⟩ = some (.int .i64 n2) := pw_cell_below N_w4.out B_d_1.out; have V_d_2 : World.cell? w4 ⟨w.heap.size + 1, 2, none⟩ = some (.slice B k.length d) := pw_cell_below N_w4.out B_d_2.out; clear hb)
        | (go_at_call 14; with_reducible refine (right9_is k n2 s B d _ (Kd.C_below C_k.out (bt N_w1.out N_w4.out)) hm HQ.fits hd).mono ?_; rintro e w5 ⟨rfl, hb⟩; clear V_d_0 V_d_1 V_d_2; have N_w5 := Lib.hid (bt (x := w4) (Below.refl _ _) hb); clear hb)
        )
      go_ret
      exact ⟨rfl, (bt (bt N_w1.out N_w4.out) N_w5.out)⟩
    | true =>
      have dt := (rightD_iff _ _ _).1 hd
      have V_v_0 : World.cell? w1 ⟨w.heap.size, 0, none⟩ = some (.int .i64 nb) := pw_cell_below (Below.refl _ _) B_v_0.out
      have V_v_1 : World.cell? w1 ⟨w.heap.size, 1, none⟩ = some (.slice A l.length c) := pw_cell_below (Below.refl _ _) B_v_1.out
      go_upto_region 7 with (first
        | (go_at_call 12; with_reducible refine (right_is l nb A c _ (Kd.C_below C_l.out N_w1.out) hl Rb.fits hr).mono ?_; rintro e w4 ⟨rfl, hb⟩; clear V_v_0 V_v_1; have N_w4 := Lib.hid (bt (x := w1) (Below.refl _ _) hb); have V_d_0 : World.cell? w4 ⟨w.heap.size + 1, 0, none⟩ = some (.int .i64 s) := pw_cell_below N_w4.out B_d_0.out; have V_d_1 : World.cell? w4 ⟨w.heap.size + 1, 1, none⟩ = some (.int .i64 n2) := pw_cell_below N_w4.out B_d_1.out; have V_d_2 : World.cell? w4 ⟨w.heap.size + 1, 2, none⟩ = some (.slice B k.length d) := pw_cell_below N_w4.out B_d_2.out; clear hb)
        | (go_at_call 14; with_reducible refine (right9_is k n2 s B d _ (Kd.C_below C_k.out (bt N_w1.out N_w4.out)) hm HQ.fits hd).mono ?_; rintro e w5 ⟨rfl, hb⟩; clear V_d_0 V_d_1 V_d_2; have N_w5 := Lib.hid (bt (x := w4) (Below.refl _ _) hb); clear hb)
        )
      clear hr hd
      by_cases hs : s = nb
      case neg =>
        have t8 : (s != nb) = true := by simpa using hs
        have t8b : (s == nb) = false := by simpa using hs
        refine start_ (n := 15) (S := fun w' => w'.cell? ⟨w.heap.size, 0, none⟩ = some (.int .i64 nb) ∧ w'.cell? ⟨w.heap.size, 1, none⟩ = some (.slice A l.length c) ∧ w'.cell? ⟨w.heap.size + 1, 0, none⟩ = some (.int .i64 s) ∧ w'.cell? ⟨w.heap.size + 1, 1, none⟩ = some (.int .i64 n2) ∧ w'.cell? ⟨w.heap.size + 1, 2, none⟩ = some (.slice B k.length d)) (ds := [13]) #[false, false, false, false, false, false, false, false, false, false, false, false, false, false, false] (by kernel_rfl) rfl rfl ⟨pw_cell_below (bt (bt N_w4.out N_w5.out) (Below.refl _ _).drew) B_v_0.out, pw_cell_below (bt (bt N_w4.out N_w5.out) (Below.refl _ _).drew) B_v_1.out, pw_cell_below (bt (bt N_w4.out N_w5.out) (Below.refl _ _).drew) B_d_0.out, pw_cell_below (bt (bt N_w4.out N_w5.out) (Below.refl _ _).drew) B_d_1.out, pw_cell_below (bt (bt N_w4.out N_w5.out) (Below.refl _ _).drew) B_d_2.out⟩ (fun hHeld => ?_)
        refine with_tabW fL.tab7 fL.bits7 (fun HT_ HW_ => ?_)
        refine pure_ (i := 2) (N := some 27) (v := ?_) (a' := ?_) #[false, false, true, false, false, false, false, false, false, false, false, false, false, false, false] rfl rfl (any_of HT_.out (by kernel_rfl)) (fun _ _ _ h => h) (Or.inl ⟨by rfl, ?_⟩) ?_ ?_
        rotate_left
        · intro w'
          go_simp
          with_reducible rfl
        rotate_left
        · simp only [Act.put, List.setIfInBounds_toArray, List.set_cons_zero, List.set_cons_succ, i64_w, i32_w]
          rfl
        refine pure_ (i := 4) (N := some 29) (v := ?_) (a' := ?_) #[false, false, true, false, true, false, false, false, false, false, false, false, false, false, false] rfl rfl (any_of HT_.out (by kernel_rfl)) (fun _ _ _ h => h) (Or.inl ⟨by rfl, ?_⟩) ?_ ?_
        rotate_left
        · intro w'
          go_simp
          with_reducible rfl
        rotate_left
        · simp only [Act.put, List.setIfInBounds_toArray, List.set_cons_zero, List.set_cons_succ, i64_w, i32_w]
          rfl
        refine take_ (i := 0) (N := some 25) (v := ?_) (a' := ?_) #[true, false, true, false, true, false, false, false, false, false, false, false, false, false, false] rfl rfl (take_ofW HT_.out HW_.out (by kernel_rfl)) (fun _ _ _ h => h) (Or.inl ⟨by rfl, ?_⟩) hHeld ?_ ?_
        rotate_left
        · rintro w' ⟨s0, s1, s2, s3, s4⟩
          go_simp
          with_reducible rfl
        rotate_left
        · simp only [Act.put, List.setIfInBounds_toArray, List.set_cons_zero, List.set_cons_succ, i64_w, i32_w]
          rfl
        refine take_ (i := 3) (N := some 28) (v := ?_) (a' := ?_) #[true, false, true, true, true, false, false, false, false, false, false, false, false, false, false] rfl rfl (take_ofW HT_.out HW_.out (by kernel_rfl)) (fun _ _ _ h => h) (Or.inl ⟨by rfl, ?_⟩) hHeld ?_ ?_
        rotate_left
        · rintro w' ⟨s0, s1, s2, s3, s4⟩
          go_simp
          with_reducible rfl
        rotate_left
        · simp only [Act.put, List.setIfInBounds_toArray, List.set_cons_zero, List.set_cons_succ, i64_w, i32_w]
          rfl
        refine take_ (i := 5) (N := some 30) (v := ?_) (a' := ?_) #[true, false, true, true, true, true, false, false, false, false, false, false, false, false, false] rfl rfl (take_ofW HT_.out HW_.out (by kernel_rfl)) (fun _ _ _ h => h) (Or.inl ⟨by rfl, ?_⟩) hHeld ?_ ?_
        rotate_left
        · rintro w' ⟨s0, s1, s2, s3, s4⟩
          go_simp
          with_reducible rfl
        rotate_left
        · simp only [Act.put, List.setIfInBounds_toArray, List.set_cons_zero, List.set_cons_succ, i64_w, i32_w]
          rfl
        refine join_ (σ := Nat × Option Addr × Nat × Option Addr × Nat) 2 #[true, true, true, true, true, true, true, true, true, true, true, true, true, false, false] (fun sg => [(26, .agg #[.int .i64 nb, .slice sg.2.1 l.length sg.2.2.1]), (31, .agg #[.int .i64 n2, .slice sg.2.2.2.1 k.length sg.2.2.2.2]), (32, .agg #[.int .i64 s, .int .i64 n2, .slice sg.2.2.2.1 k.length sg.2.2.2.2]), (33, .tuple #[.agg #[.int .i64 0, .slice none 0 0], .int .i64 91]), (24, .tuple #[.agg #[.int .i64 0, .slice none 0 0], .int .i64 91]), (34, .agg #[.int .i64 0, .slice none 0 0]), (35, .int .i64 91), (7, .pointer (some ⟨sg.1, 0, none⟩))]) (fun sg w' => (Below w5.heap.size w5 w' ∧ Zbox w' sg.1 ∧ w5.heap.size ≤ sg.1)) ?_ ?_
        rotate_left
        · intro hCont
          refine two_ (i := 1) (j := 12) (Ni := some 26) (Nj := some 7) #[true, true, true, true, true, true, false, false, false, false, false, false, false, false, false] #[true, false, true, true, true, true, false, false, false, false, false, false, true, false, false] rfl rfl rfl rfl (two_of HT_.out (by kernel_rfl)) (by decide) (by decide) (fun K hK => ?_) (fun K hK => ?_)
          · skip
            refine goes_ Try.func10 (by kernel_rfl) rfl #[.agg #[.int .i64 nb, .slice A l.length c]] (by rfl) rfl rfl (by simp only [List.map_toArray, List.map_cons, List.map_nil]; first | rfl | (refine congrArg List.toArray (congr (congrArg List.cons ?_) (congrArg (fun z => [z]) ?_)) <;> first | rfl | go_simp)) ?_
            with_reducible refine (copy_C l nb A c _ (Kd.C_below C_l.out (bt (bt (bt N_w1.out N_w4.out) N_w5.out) (Below.refl w5.heap.size w5).drew)) hl Rb).mono ?_
            rintro e wq0 ⟨A1, c1, rfl, hc1, hC1, hb0⟩
            refine ⟨_, rfl, ?_⟩
            refine hK.out _ _ ⟨pw_cell_below hb0 (hHeld.1), pw_cell_below hb0 (hHeld.2.1), pw_cell_below hb0 (hHeld.2.2.1), pw_cell_below hb0 (hHeld.2.2.2.1), pw_cell_below hb0 (hHeld.2.2.2.2)⟩ (fun hHeld => ?_)
            clear hK K
            refine norm_ (a' := ?_) ?_ ?_
            rotate_left
            · show Act.put _ (some 26) _ = _
              simp only [Act.put, List.setIfInBounds_toArray, List.set_cons_zero, List.set_cons_succ, i64_w, i32_w]
              rfl
            refine two_ (i := 6) (j := 12) (Ni := some 31) (Nj := some 7) #[true, true, true, true, true, true, true, false, false, false, false, false, false, false, false] #[true, true, true, true, true, true, false, false, false, false, false, false, true, false, false] rfl rfl rfl rfl (two_of HT_.out (by kernel_rfl)) (by decide) (by decide) (fun K hK => ?_) (fun K hK => ?_)
            · skip
              refine goes_ Try.func10 (by kernel_rfl) rfl #[.agg #[.int .i64 n2, .slice B k.length d]] (by rfl) rfl rfl (by simp only [List.map_toArray, List.map_cons, List.map_nil]; first | rfl | (refine congrArg List.toArray (congr (congrArg List.cons ?_) (congrArg (fun z => [z]) ?_)) <;> first | rfl | go_simp)) ?_
              with_reducible refine (copy_C k n2 B d _ (Kd.C_below C_k.out (bt (bt (bt N_w1.out N_w4.out) N_w5.out) (bt (Below.refl w5.heap.size w5).drew hb0))) hm HQ).mono ?_
              rintro e wq1 ⟨A2, c2, rfl, hc2, hC2, hb1⟩
              refine ⟨_, rfl, ?_⟩
              refine hK.out _ _ ⟨pw_cell_below hb1 (hHeld.1), pw_cell_below hb1 (hHeld.2.1), pw_cell_below hb1 (hHeld.2.2.1), pw_cell_below hb1 (hHeld.2.2.2.1), pw_cell_below hb1 (hHeld.2.2.2.2)⟩ (fun hHeld => ?_)
              clear hK K
              refine norm_ (a' := ?_) ?_ ?_
              rotate_left
              · show Act.put _ (some 31) _ = _
                simp only [Act.put, List.setIfInBounds_toArray, List.set_cons_zero, List.set_cons_succ, i64_w, i32_w]
                rfl
              refine pure_ (i := 7) (N := some 32) (v := ?_) (a' := ?_) #[true, true, true, true, true, true, true, true, false, false, false, false, false, false, false] rfl rfl (any_of HT_.out (by kernel_rfl)) (fun _ _ _ h => h) (Or.inl ⟨by rfl, ?_⟩) ?_ ?_
              rotate_left
              · intro w'
                go_simp
                with_reducible rfl
              rotate_left
              · simp only [Act.put, List.setIfInBounds_toArray, List.set_cons_zero, List.set_cons_succ, i64_w, i32_w]
                rfl
              refine two_ (i := 8) (j := 12) (Ni := some 33) (Nj := some 7) #[true, true, true, true, true, true, true, true, true, false, false, false, false, false, false] #[true, true, true, true, true, true, true, true, false, false, false, false, true, false, false] rfl rfl rfl rfl (two_of HT_.out (by kernel_rfl)) (by decide) (by decide) (fun K hK => ?_) (fun K hK => ?_)
              · skip
                refine goes_ Try.func16 (by kernel_rfl) rfl #[.agg #[.int .i64 nb, .slice A1 l.length c1], .agg #[.int .i64 s, .int .i64 n2, .slice A2 k.length c2]] (by rfl) rfl rfl (by simp only [List.map_toArray, List.map_cons, List.map_nil]; first | rfl | (refine congrArg List.toArray (congr (congrArg List.cons ?_) (congrArg (fun z => [z]) ?_)) <;> first | rfl | go_simp)) ?_
                with_reducible refine (apply_no l k nb s n2 A1 A2 c1 c2 _ hs).mono ?_
                rintro e wq2 ⟨rfl, hb2⟩
                refine ⟨_, rfl, ?_⟩
                refine hK.out _ _ ⟨pw_cell_below hb2 (hHeld.1), pw_cell_below hb2 (hHeld.2.1), pw_cell_below hb2 (hHeld.2.2.1), pw_cell_below hb2 (hHeld.2.2.2.1), pw_cell_below hb2 (hHeld.2.2.2.2)⟩ (fun hHeld => ?_)
                clear hK K
                refine norm_ (a' := ?_) ?_ ?_
                rotate_left
                · show Act.put _ (some 33) _ = _
                  simp only [Act.put, List.setIfInBounds_toArray, List.set_cons_zero, List.set_cons_succ, i64_w, i32_w]
                  rfl
                refine pure_ (i := 9) (N := some 24) (v := ?_) (a' := ?_) #[true, true, true, true, true, true, true, true, true, true, false, false, false, false, false] rfl rfl (any_of HT_.out (by kernel_rfl)) (fun _ _ _ h => h) (Or.inl ⟨by rfl, ?_⟩) ?_ ?_
                rotate_left
                · intro w'
                  go_simp
                  with_reducible rfl
                rotate_left
                · simp only [Act.put, List.setIfInBounds_toArray, List.set_cons_zero, List.set_cons_succ, i64_w, i32_w]
                  rfl
                refine pure_ (i := 10) (N := some 34) (v := ?_) (a' := ?_) #[true, true, true, true, true, true, true, true, true, true, true, false, false, false, false] rfl rfl (any_of HT_.out (by kernel_rfl)) (fun _ _ _ h => h) (Or.inl ⟨by rfl, ?_⟩) ?_ ?_
                rotate_left
                · intro w'
                  go_simp
                  with_reducible rfl
                rotate_left
                · simp only [Act.put, List.setIfInBounds_toArray, List.set_cons_zero, List.set_cons_succ, i64_w, i32_w]
                  rfl
                refine pure_ (i := 11) (N := some 35) (v := ?_) (a' := ?_) #[true, true, true, true, true, true, true, true, true, true, true, true, false, false, false] rfl rfl (any_of HT_.out (by kernel_rfl)) (fun _ _ _ h => h) (Or.inl ⟨by rfl, ?_⟩) ?_ ?_
                rotate_left
                · intro w'
                  go_simp
                  with_reducible rfl
                rotate_left
                · simp only [Act.put, List.setIfInBounds_toArray, List.set_cons_zero, List.set_cons_succ, i64_w, i32_w]
                  rfl
                refine one_ (i := 12) (N := some 7) #[true, true, true, true, true, true, true, true, true, true, true, true, true, false, false] rfl rfl (one_of HT_.out (by kernel_rfl)) (by decide) (fun K hK => ?_)
                refine value_ (w1 := ?_) (v := ?_) (by rfl) rfl ?_ ?_
                rotate_left 2
                · go_simp
                  constructor
                  · rfl
                  · rfl
                refine hK.out _ _ ⟨pw_cell_below (below1 _ _) (hHeld.1), pw_cell_below (below1 _ _) (hHeld.2.1), pw_cell_below (below1 _ _) (hHeld.2.2.1), pw_cell_below (below1 _ _) (hHeld.2.2.2.1), pw_cell_below (below1 _ _) (hHeld.2.2.2.2)⟩ (fun hHeld => ?_)
                clear hK K
                refine norm_ (a' := ?_) ?_ ?_
                rotate_left
                · show Act.put _ (some 7) _ = _
                  simp only [Act.put, List.setIfInBounds_toArray, List.set_cons_zero, List.set_cons_succ, i64_w, i32_w]
                  rfl
                exact norm_ (by simp only [putAll, Act.put, List.setIfInBounds_toArray, List.set_cons_zero, List.set_cons_succ]) (hCont (wq2.heap.size, A1, c1, A2, c2) _ ⟨(bt (bt (bt (bt (Below.refl w5.heap.size w5).drew hb0) hb1) hb2) (below1 _ (.cells #[.int .i64 0, .slice none 0 0] 24))), zbox_new _, ((bt (bt (bt (Below.refl w5.heap.size w5).drew hb0) hb1) hb2)).size⟩)
              · skip
                refine value_ (w1 := ?_) (v := ?_) (by rfl) rfl ?_ ?_
                rotate_left 2
                · go_simp
                  constructor
                  · rfl
                  · rfl
                refine hK.out _ _ ⟨pw_cell_below (below1 _ _) (hHeld.1), pw_cell_below (below1 _ _) (hHeld.2.1), pw_cell_below (below1 _ _) (hHeld.2.2.1), pw_cell_below (below1 _ _) (hHeld.2.2.2.1), pw_cell_below (below1 _ _) (hHeld.2.2.2.2)⟩ (fun hHeld => ?_)
                clear hK K
                refine norm_ (a' := ?_) ?_ ?_
                rotate_left
                · show Act.put _ (some 7) _ = _
                  simp only [Act.put, List.setIfInBounds_toArray, List.set_cons_zero, List.set_cons_succ, i64_w, i32_w]
                  rfl
                refine one_ (i := 8) (N := some 33) #[true, true, true, true, true, true, true, true, true, false, false, false, true, false, false] rfl rfl (one_of HT_.out (by kernel_rfl)) (by decide) (fun K hK => ?_)
                refine goes_ Try.func16 (by kernel_rfl) rfl #[.agg #[.int .i64 nb, .slice A1 l.length c1], .agg #[.int .i64 s, .int .i64 n2, .slice A2 k.length c2]] (by rfl) rfl rfl (by simp only [List.map_toArray, List.map_cons, List.map_nil]; first | rfl | (refine congrArg List.toArray (congr (congrArg List.cons ?_) (congrArg (fun z => [z]) ?_)) <;> first | rfl | go_simp)) ?_
                with_reducible refine (apply_no l k nb s n2 A1 A2 c1 c2 _ hs).mono ?_
                rintro e wq2 ⟨rfl, hb2⟩
                refine ⟨_, rfl, ?_⟩
                refine hK.out _ _ ⟨pw_cell_below hb2 (hHeld.1), pw_cell_below hb2 (hHeld.2.1), pw_cell_below hb2 (hHeld.2.2.1), pw_cell_below hb2 (hHeld.2.2.2.1), pw_cell_below hb2 (hHeld.2.2.2.2)⟩ (fun hHeld => ?_)
                clear hK K
                refine norm_ (a' := ?_) ?_ ?_
                rotate_left
                · show Act.put _ (some 33) _ = _
                  simp only [Act.put, List.setIfInBounds_toArray, List.set_cons_zero, List.set_cons_succ, i64_w, i32_w]
                  rfl
                refine pure_ (i := 9) (N := some 24) (v := ?_) (a' := ?_) #[true, true, true, true, true, true, true, true, true, true, false, false, true, false, false] rfl rfl (any_of HT_.out (by kernel_rfl)) (fun _ _ _ h => h) (Or.inl ⟨by rfl, ?_⟩) ?_ ?_
                rotate_left
                · intro w'
                  go_simp
                  with_reducible rfl
                rotate_left
                · simp only [Act.put, List.setIfInBounds_toArray, List.set_cons_zero, List.set_cons_succ, i64_w, i32_w]
                  rfl
                refine pure_ (i := 10) (N := some 34) (v := ?_) (a' := ?_) #[true, true, true, true, true, true, true, true, true, true, true, false, true, false, false] rfl rfl (any_of HT_.out (by kernel_rfl)) (fun _ _ _ h => h) (Or.inl ⟨by rfl, ?_⟩) ?_ ?_
                rotate_left
                · intro w'
                  go_simp
                  with_reducible rfl
                rotate_left
                · simp only [Act.put, List.setIfInBounds_toArray, List.set_cons_zero, List.set_cons_succ, i64_w, i32_w]
                  rfl
                refine pure_ (i := 11) (N := some 35) (v := ?_) (a' := ?_) #[true, true, true, true, true, true, true, true, true, true, true, true, true, false, false] rfl rfl (any_of HT_.out (by kernel_rfl)) (fun _ _ _ h => h) (Or.inl ⟨by rfl, ?_⟩) ?_ ?_
                rotate_left
                · intro w'
                  go_simp
                  with_reducible rfl
                rotate_left
                · simp only [Act.put, List.setIfInBounds_toArray, List.set_cons_zero, List.set_cons_succ, i64_w, i32_w]
                  rfl
                exact norm_ (by simp only [putAll, Act.put, List.setIfInBounds_toArray, List.set_cons_zero, List.set_cons_succ]) (hCont (wq1.heap.size, A1, c1, A2, c2) _ ⟨(bt (bt (bt (bt (Below.refl w5.heap.size w5).drew hb0) hb1) (below1 _ (.cells #[.int .i64 0, .slice none 0 0] 24))) hb2), (zbox_new _).below hb2, ((bt (bt (Below.refl w5.heap.size w5).drew hb0) hb1)).size⟩)
            · skip
              refine value_ (w1 := ?_) (v := ?_) (by rfl) rfl ?_ ?_
              rotate_left 2
              · go_simp
                constructor
                · rfl
                · rfl
              refine hK.out _ _ ⟨pw_cell_below (below1 _ _) (hHeld.1), pw_cell_below (below1 _ _) (hHeld.2.1), pw_cell_below (below1 _ _) (hHeld.2.2.1), pw_cell_below (below1 _ _) (hHeld.2.2.2.1), pw_cell_below (below1 _ _) (hHeld.2.2.2.2)⟩ (fun hHeld => ?_)
              clear hK K
              refine norm_ (a' := ?_) ?_ ?_
              rotate_left
              · show Act.put _ (some 7) _ = _
                simp only [Act.put, List.setIfInBounds_toArray, List.set_cons_zero, List.set_cons_succ, i64_w, i32_w]
                rfl
              refine one_ (i := 6) (N := some 31) #[true, true, true, true, true, true, true, false, false, false, false, false, true, false, false] rfl rfl (one_of HT_.out (by kernel_rfl)) (by decide) (fun K hK => ?_)
              refine goes_ Try.func10 (by kernel_rfl) rfl #[.agg #[.int .i64 n2, .slice B k.length d]] (by rfl) rfl rfl (by simp only [List.map_toArray, List.map_cons, List.map_nil]; first | rfl | (refine congrArg List.toArray (congr (congrArg List.cons ?_) (congrArg (fun z => [z]) ?_)) <;> first | rfl | go_simp)) ?_
              with_reducible refine (copy_C k n2 B d _ (Kd.C_below C_k.out (bt (bt (bt N_w1.out N_w4.out) N_w5.out) (bt (bt (Below.refl w5.heap.size w5).drew hb0) (below1 _ (.cells #[.int .i64 0, .slice none 0 0] 24))))) hm HQ).mono ?_
              rintro e wq1 ⟨A2, c2, rfl, hc2, hC2, hb1⟩
              refine ⟨_, rfl, ?_⟩
              refine hK.out _ _ ⟨pw_cell_below hb1 (hHeld.1), pw_cell_below hb1 (hHeld.2.1), pw_cell_below hb1 (hHeld.2.2.1), pw_cell_below hb1 (hHeld.2.2.2.1), pw_cell_below hb1 (hHeld.2.2.2.2)⟩ (fun hHeld => ?_)
              clear hK K
              refine norm_ (a' := ?_) ?_ ?_
              rotate_left
              · show Act.put _ (some 31) _ = _
                simp only [Act.put, List.setIfInBounds_toArray, List.set_cons_zero, List.set_cons_succ, i64_w, i32_w]
                rfl
              refine pure_ (i := 7) (N := some 32) (v := ?_) (a' := ?_) #[true, true, true, true, true, true, true, true, false, false, false, false, true, false, false] rfl rfl (any_of HT_.out (by kernel_rfl)) (fun _ _ _ h => h) (Or.inl ⟨by rfl, ?_⟩) ?_ ?_
              rotate_left
              · intro w'
                go_simp
                with_reducible rfl
              rotate_left
              · simp only [Act.put, List.setIfInBounds_toArray, List.set_cons_zero, List.set_cons_succ, i64_w, i32_w]
                rfl
              refine one_ (i := 8) (N := some 33) #[true, true, true, true, true, true, true, true, true, false, false, false, true, false, false] rfl rfl (one_of HT_.out (by kernel_rfl)) (by decide) (fun K hK => ?_)
              refine goes_ Try.func16 (by kernel_rfl) rfl #[.agg #[.int .i64 nb, .slice A1 l.length c1], .agg #[.int .i64 s, .int .i64 n2, .slice A2 k.length c2]] (by rfl) rfl rfl (by simp only [List.map_toArray, List.map_cons, List.map_nil]; first | rfl | (refine congrArg List.toArray (congr (congrArg List.cons ?_) (congrArg (fun z => [z]) ?_)) <;> first | rfl | go_simp)) ?_
              with_reducible refine (apply_no l k nb s n2 A1 A2 c1 c2 _ hs).mono ?_
              rintro e wq2 ⟨rfl, hb2⟩
              refine ⟨_, rfl, ?_⟩
              refine hK.out _ _ ⟨pw_cell_below hb2 (hHeld.1), pw_cell_below hb2 (hHeld.2.1), pw_cell_below hb2 (hHeld.2.2.1), pw_cell_below hb2 (hHeld.2.2.2.1), pw_cell_below hb2 (hHeld.2.2.2.2)⟩ (fun hHeld => ?_)
              clear hK K
              refine norm_ (a' := ?_) ?_ ?_
              rotate_left
              · show Act.put _ (some 33) _ = _
                simp only [Act.put, List.setIfInBounds_toArray, List.set_cons_zero, List.set_cons_succ, i64_w, i32_w]
                rfl
              refine pure_ (i := 9) (N := some 24) (v := ?_) (a' := ?_) #[true, true, true, true, true, true, true, true, true, true, false, false, true, false, false] rfl rfl (any_of HT_.out (by kernel_rfl)) (fun _ _ _ h => h) (Or.inl ⟨by rfl, ?_⟩) ?_ ?_
              rotate_left
              · intro w'
                go_simp
                with_reducible rfl
              rotate_left
              · simp only [Act.put, List.setIfInBounds_toArray, List.set_cons_zero, List.set_cons_succ, i64_w, i32_w]
                rfl
              refine pure_ (i := 10) (N := some 34) (v := ?_) (a' := ?_) #[true, true, true, true, true, true, true, true, true, true, true, false, true, false, false] rfl rfl (any_of HT_.out (by kernel_rfl)) (fun _ _ _ h => h) (Or.inl ⟨by rfl, ?_⟩) ?_ ?_
              rotate_left
              · intro w'
                go_simp
                with_reducible rfl
              rotate_left
              · simp only [Act.put, List.setIfInBounds_toArray, List.set_cons_zero, List.set_cons_succ, i64_w, i32_w]
                rfl
              refine pure_ (i := 11) (N := some 35) (v := ?_) (a' := ?_) #[true, true, true, true, true, true, true, true, true, true, true, true, true, false, false] rfl rfl (any_of HT_.out (by kernel_rfl)) (fun _ _ _ h => h) (Or.inl ⟨by rfl, ?_⟩) ?_ ?_
              rotate_left
              · intro w'
                go_simp
                with_reducible rfl
              rotate_left
              · simp only [Act.put, List.setIfInBounds_toArray, List.set_cons_zero, List.set_cons_succ, i64_w, i32_w]
                rfl
              exact norm_ (by simp only [putAll, Act.put, List.setIfInBounds_toArray, List.set_cons_zero, List.set_cons_succ]) (hCont (wq0.heap.size, A1, c1, A2, c2) _ ⟨(bt (bt (bt (bt (Below.refl w5.heap.size w5).drew hb0) (below1 _ (.cells #[.int .i64 0, .slice none 0 0] 24))) hb1) hb2), ((zbox_new _).below hb1).below hb2, ((bt (Below.refl w5.heap.size w5).drew hb0)).size⟩)
          · skip
            refine value_ (w1 := ?_) (v := ?_) (by rfl) rfl ?_ ?_
            rotate_left 2
            · go_simp
              constructor
              · rfl
              · rfl
            refine hK.out _ _ ⟨pw_cell_below (below1 _ _) (hHeld.1), pw_cell_below (below1 _ _) (hHeld.2.1), pw_cell_below (below1 _ _) (hHeld.2.2.1), pw_cell_below (below1 _ _) (hHeld.2.2.2.1), pw_cell_below (below1 _ _) (hHeld.2.2.2.2)⟩ (fun hHeld => ?_)
            clear hK K
            refine norm_ (a' := ?_) ?_ ?_
            rotate_left
            · show Act.put _ (some 7) _ = _
              simp only [Act.put, List.setIfInBounds_toArray, List.set_cons_zero, List.set_cons_succ, i64_w, i32_w]
              rfl
            refine one_ (i := 1) (N := some 26) #[true, true, true, true, true, true, false, false, false, false, false, false, true, false, false] rfl rfl (one_of HT_.out (by kernel_rfl)) (by decide) (fun K hK => ?_)
            refine goes_ Try.func10 (by kernel_rfl) rfl #[.agg #[.int .i64 nb, .slice A l.length c]] (by rfl) rfl rfl (by simp only [List.map_toArray, List.map_cons, List.map_nil]; first | rfl | (refine congrArg List.toArray (congr (congrArg List.cons ?_) (congrArg (fun z => [z]) ?_)) <;> first | rfl | go_simp)) ?_
            with_reducible refine (copy_C l nb A c _ (Kd.C_below C_l.out (bt (bt (bt N_w1.out N_w4.out) N_w5.out) (below1 w5 (.cells #[.int .i64 0, .slice none 0 0] 24)).drew)) hl Rb).mono ?_
            rintro e wq0 ⟨A1, c1, rfl, hc1, hC1, hb0⟩
            refine ⟨_, rfl, ?_⟩
            refine hK.out _ _ ⟨pw_cell_below hb0 (hHeld.1), pw_cell_below hb0 (hHeld.2.1), pw_cell_below hb0 (hHeld.2.2.1), pw_cell_below hb0 (hHeld.2.2.2.1), pw_cell_below hb0 (hHeld.2.2.2.2)⟩ (fun hHeld => ?_)
            clear hK K
            refine norm_ (a' := ?_) ?_ ?_
            rotate_left
            · show Act.put _ (some 26) _ = _
              simp only [Act.put, List.setIfInBounds_toArray, List.set_cons_zero, List.set_cons_succ, i64_w, i32_w]
              rfl
            refine one_ (i := 6) (N := some 31) #[true, true, true, true, true, true, true, false, false, false, false, false, true, false, false] rfl rfl (one_of HT_.out (by kernel_rfl)) (by decide) (fun K hK => ?_)
            refine goes_ Try.func10 (by kernel_rfl) rfl #[.agg #[.int .i64 n2, .slice B k.length d]] (by rfl) rfl rfl (by simp only [List.map_toArray, List.map_cons, List.map_nil]; first | rfl | (refine congrArg List.toArray (congr (congrArg List.cons ?_) (congrArg (fun z => [z]) ?_)) <;> first | rfl | go_simp)) ?_
            with_reducible refine (copy_C k n2 B d _ (Kd.C_below C_k.out (bt (bt (bt N_w1.out N_w4.out) N_w5.out) (bt (below1 w5 (.cells #[.int .i64 0, .slice none 0 0] 24)).drew hb0))) hm HQ).mono ?_
            rintro e wq1 ⟨A2, c2, rfl, hc2, hC2, hb1⟩
            refine ⟨_, rfl, ?_⟩
            refine hK.out _ _ ⟨pw_cell_below hb1 (hHeld.1), pw_cell_below hb1 (hHeld.2.1), pw_cell_below hb1 (hHeld.2.2.1), pw_cell_below hb1 (hHeld.2.2.2.1), pw_cell_below hb1 (hHeld.2.2.2.2)⟩ (fun hHeld => ?_)
            clear hK K
            refine norm_ (a' := ?_) ?_ ?_
            rotate_left
            · show Act.put _ (some 31) _ = _
              simp only [Act.put, List.setIfInBounds_toArray, List.set_cons_zero, List.set_cons_succ, i64_w, i32_w]
              rfl
            refine pure_ (i := 7) (N := some 32) (v := ?_) (a' := ?_) #[true, true, true, true, true, true, true, true, false, false, false, false, true, false, false] rfl rfl (any_of HT_.out (by kernel_rfl)) (fun _ _ _ h => h) (Or.inl ⟨by rfl, ?_⟩) ?_ ?_
            rotate_left
            · intro w'
              go_simp
              with_reducible rfl
            rotate_left
            · simp only [Act.put, List.setIfInBounds_toArray, List.set_cons_zero, List.set_cons_succ, i64_w, i32_w]
              rfl
            refine one_ (i := 8) (N := some 33) #[true, true, true, true, true, true, true, true, true, false, false, false, true, false, false] rfl rfl (one_of HT_.out (by kernel_rfl)) (by decide) (fun K hK => ?_)
            refine goes_ Try.func16 (by kernel_rfl) rfl #[.agg #[.int .i64 nb, .slice A1 l.length c1], .agg #[.int .i64 s, .int .i64 n2, .slice A2 k.length c2]] (by rfl) rfl rfl (by simp only [List.map_toArray, List.map_cons, List.map_nil]; first | rfl | (refine congrArg List.toArray (congr (congrArg List.cons ?_) (congrArg (fun z => [z]) ?_)) <;> first | rfl | go_simp)) ?_
            with_reducible refine (apply_no l k nb s n2 A1 A2 c1 c2 _ hs).mono ?_
            rintro e wq2 ⟨rfl, hb2⟩
            refine ⟨_, rfl, ?_⟩
            refine hK.out _ _ ⟨pw_cell_below hb2 (hHeld.1), pw_cell_below hb2 (hHeld.2.1), pw_cell_below hb2 (hHeld.2.2.1), pw_cell_below hb2 (hHeld.2.2.2.1), pw_cell_below hb2 (hHeld.2.2.2.2)⟩ (fun hHeld => ?_)
            clear hK K
            refine norm_ (a' := ?_) ?_ ?_
            rotate_left
            · show Act.put _ (some 33) _ = _
              simp only [Act.put, List.setIfInBounds_toArray, List.set_cons_zero, List.set_cons_succ, i64_w, i32_w]
              rfl
            refine pure_ (i := 9) (N := some 24) (v := ?_) (a' := ?_) #[true, true, true, true, true, true, true, true, true, true, false, false, true, false, false] rfl rfl (any_of HT_.out (by kernel_rfl)) (fun _ _ _ h => h) (Or.inl ⟨by rfl, ?_⟩) ?_ ?_
            rotate_left
            · intro w'
              go_simp
              with_reducible rfl
            rotate_left
            · simp only [Act.put, List.setIfInBounds_toArray, List.set_cons_zero, List.set_cons_succ, i64_w, i32_w]
              rfl
            refine pure_ (i := 10) (N := some 34) (v := ?_) (a' := ?_) #[true, true, true, true, true, true, true, true, true, true, true, false, true, false, false] rfl rfl (any_of HT_.out (by kernel_rfl)) (fun _ _ _ h => h) (Or.inl ⟨by rfl, ?_⟩) ?_ ?_
            rotate_left
            · intro w'
              go_simp
              with_reducible rfl
            rotate_left
            · simp only [Act.put, List.setIfInBounds_toArray, List.set_cons_zero, List.set_cons_succ, i64_w, i32_w]
              rfl
            refine pure_ (i := 11) (N := some 35) (v := ?_) (a' := ?_) #[true, true, true, true, true, true, true, true, true, true, true, true, true, false, false] rfl rfl (any_of HT_.out (by kernel_rfl)) (fun _ _ _ h => h) (Or.inl ⟨by rfl, ?_⟩) ?_ ?_
            rotate_left
            · intro w'
              go_simp
              with_reducible rfl
            rotate_left
            · simp only [Act.put, List.setIfInBounds_toArray, List.set_cons_zero, List.set_cons_succ, i64_w, i32_w]
              rfl
            exact norm_ (by simp only [putAll, Act.put, List.setIfInBounds_toArray, List.set_cons_zero, List.set_cons_succ]) (hCont (w5.heap.size, A1, c1, A2, c2) _ ⟨(bt (bt (bt (below1 w5 (.cells #[.int .i64 0, .slice none 0 0] 24)).drew hb0) hb1) hb2), ((((zbox_new w5).below (Below.refl _ _).drew).below hb0).below hb1).below hb2, Nat.le_refl _⟩)
        rintro ⟨g7, A1, c1, A2, c2⟩ wx7 ⟨hF1, hF2, hF3⟩
        have k0 := hF2.c0
        have k1 := hF2.c1
        have kf := hF2.fr
        refine norm_ (a' := ?_) ?_ ?_
        rotate_left
        · simp only [putAll, Act.put, List.setIfInBounds_toArray, List.set_cons_zero, List.set_cons_succ]
          rfl
        refine last_ (i := 13) (N := none) #[true, true, true, true, true, true, true, true, true, true, true, true, true, true, false] rfl rfl (one_of HT_.out (by kernel_rfl)) (by decide) (fun K hK => ?_)
        refine skip_ (w1 := ?_) (by rfl) rfl ?_ ?_
        rotate_left
        · go_simp
          rfl
        refine hK.out _ _ ?_
        clear hK K
        refine pure_ (i := 14) (N := some 8) (v := ?_) (a' := ?_) #[true, true, true, true, true, true, true, true, true, true, true, true, true, true, true] rfl rfl (any_of HT_.out (by kernel_rfl)) (fun _ _ _ h => h) (Or.inl ⟨by rfl, ?_⟩) ?_ ?_
        rotate_left
        · intro w'
          go_simp
          with_reducible rfl
        rotate_left
        · simp only [Act.put, List.setIfInBounds_toArray, List.set_cons_zero, List.set_cons_succ, i64_w, i32_w]
          rfl
        refine done_ (done_of HT_.out (by kernel_rfl)) ?_
        obtain ⟨hs1, hs2, hs3⟩ := stored0 hF1 hF2 hF3
        generalize ((wx7.setCell ⟨g7, 0, none⟩ (.int .i64 0)).setCell ⟨g7, 1, none⟩ (.slice none 0 0)) = w8 at *
        clear hF1 hF2 hF3 k0 k1 kf
        have N_w8 := Lib.hid hs1
        have B_x_0 := Lib.hid hs2
        have B_x_1 := Lib.hid hs3
        clear hs1 hs2 hs3
        have V_v_0 : World.cell? w8 ⟨w.heap.size, 0, none⟩ = some (.int .i64 nb) := pw_cell_below (bt (bt N_w4.out N_w5.out) N_w8.out) B_v_0.out
        have V_v_1 : World.cell? w8 ⟨w.heap.size, 1, none⟩ = some (.slice A l.length c) := pw_cell_below (bt (bt N_w4.out N_w5.out) N_w8.out) B_v_1.out
        have V_d_0 : World.cell? w8 ⟨w.heap.size + 1, 0, none⟩ = some (.int .i64 s) := pw_cell_below (bt (bt N_w4.out N_w5.out) N_w8.out) B_d_0.out
        have V_d_1 : World.cell? w8 ⟨w.heap.size + 1, 1, none⟩ = some (.int .i64 n2) := pw_cell_below (bt (bt N_w4.out N_w5.out) N_w8.out) B_d_1.out
        have V_d_2 : World.cell? w8 ⟨w.heap.size + 1, 2, none⟩ = some (.slice B k.length d) := pw_cell_below (bt (bt N_w4.out N_w5.out) N_w8.out) B_d_2.out
        have V_x_0 : World.cell? w8 ⟨g7, 0, none⟩ = some (.int .i64 0) := pw_cell_below (Below.refl _ _) B_x_0.out
        have V_x_1 : World.cell? w8 ⟨g7, 1, none⟩ = some (.slice none 0 0) := pw_cell_below (Below.refl _ _) B_x_1.out
        go_wp2_with (first
          | (go_at_call 18; with_reducible refine (same_0 _).mono ?_; rintro e w9 ⟨rfl, hb⟩; clear V_v_0 V_v_1 V_d_0 V_d_1 V_d_2 V_x_0 V_x_1; have N_w9 := Lib.hid (bt (x := w8) (Below.refl _ _) hb); clear hb)
          )
        go_ret
        exact ⟨rfl, (bt (bt (bt (bt N_w1.out N_w4.out) N_w5.out) N_w8.out) N_w9.out)⟩
      subst hs
      have t8 : (s != s) = false := by simp
      by_cases h2 : l.length + k.length ≤ 256
      case neg =>
        have hb1 := Rb.len
        have hb2 := HQ.len
        have t10 : decide ((256 : Int) < (l.length : Int) + (k.length : Int)) = true := decide_eq_true (by omega)
        refine start_ (n := 15) (S := fun w' => w'.cell? ⟨w.heap.size, 0, none⟩ = some (.int .i64 s) ∧ w'.cell? ⟨w.heap.size, 1, none⟩ = some (.slice A l.length c) ∧ w'.cell? ⟨w.heap.size + 1, 0, none⟩ = some (.int .i64 s) ∧ w'.cell? ⟨w.heap.size + 1, 1, none⟩ = some (.int .i64 n2) ∧ w'.cell? ⟨w.heap.size + 1, 2, none⟩ = some (.slice B k.length d)) (ds := [13]) #[false, false, false, false, false, false, false, false, false, false, false, false, false, false, false] (by kernel_rfl) rfl rfl ⟨pw_cell_below (bt (bt N_w4.out N_w5.out) (Below.refl _ _).drew) B_v_0.out, pw_cell_below (bt (bt N_w4.out N_w5.out) (Below.refl _ _).drew) B_v_1.out, pw_cell_below (bt (bt N_w4.out N_w5.out) (Below.refl _ _).drew) B_d_0.out, pw_cell_below (bt (bt N_w4.out N_w5.out) (Below.refl _ _).drew) B_d_1.out, pw_cell_below (bt (bt N_w4.out N_w5.out) (Below.refl _ _).drew) B_d_2.out⟩ (fun hHeld => ?_)
        refine with_tabW fL.tab7 fL.bits7 (fun HT_ HW_ => ?_)
        refine pure_ (i := 2) (N := some 27) (v := ?_) (a' := ?_) #[false, false, true, false, false, false, false, false, false, false, false, false, false, false, false] rfl rfl (any_of HT_.out (by kernel_rfl)) (fun _ _ _ h => h) (Or.inl ⟨by rfl, ?_⟩) ?_ ?_
        rotate_left
        · intro w'
          go_simp
          with_reducible rfl
        rotate_left
        · simp only [Act.put, List.setIfInBounds_toArray, List.set_cons_zero, List.set_cons_succ, i64_w, i32_w]
          rfl
        refine pure_ (i := 4) (N := some 29) (v := ?_) (a' := ?_) #[false, false, true, false, true, false, false, false, false, false, false, false, false, false, false] rfl rfl (any_of HT_.out (by kernel_rfl)) (fun _ _ _ h => h) (Or.inl ⟨by rfl, ?_⟩) ?_ ?_
        rotate_left
        · intro w'
          go_simp
          with_reducible rfl
        rotate_left
        · simp only [Act.put, List.setIfInBounds_toArray, List.set_cons_zero, List.set_cons_succ, i64_w, i32_w]
          rfl
        refine take_ (i := 0) (N := some 25) (v := ?_) (a' := ?_) #[true, false, true, false, true, false, false, false, false, false, false, false, false, false, false] rfl rfl (take_ofW HT_.out HW_.out (by kernel_rfl)) (fun _ _ _ h => h) (Or.inl ⟨by rfl, ?_⟩) hHeld ?_ ?_
        rotate_left
        · rintro w' ⟨s0, s1, s2, s3, s4⟩
          go_simp
          with_reducible rfl
        rotate_left
        · simp only [Act.put, List.setIfInBounds_toArray, List.set_cons_zero, List.set_cons_succ, i64_w, i32_w]
          rfl
        refine take_ (i := 3) (N := some 28) (v := ?_) (a' := ?_) #[true, false, true, true, true, false, false, false, false, false, false, false, false, false, false] rfl rfl (take_ofW HT_.out HW_.out (by kernel_rfl)) (fun _ _ _ h => h) (Or.inl ⟨by rfl, ?_⟩) hHeld ?_ ?_
        rotate_left
        · rintro w' ⟨s0, s1, s2, s3, s4⟩
          go_simp
          with_reducible rfl
        rotate_left
        · simp only [Act.put, List.setIfInBounds_toArray, List.set_cons_zero, List.set_cons_succ, i64_w, i32_w]
          rfl
        refine take_ (i := 5) (N := some 30) (v := ?_) (a' := ?_) #[true, false, true, true, true, true, false, false, false, false, false, false, false, false, false] rfl rfl (take_ofW HT_.out HW_.out (by kernel_rfl)) (fun _ _ _ h => h) (Or.inl ⟨by rfl, ?_⟩) hHeld ?_ ?_
        rotate_left
        · rintro w' ⟨s0, s1, s2, s3, s4⟩
          go_simp
          with_reducible rfl
        rotate_left
        · simp only [Act.put, List.setIfInBounds_toArray, List.set_cons_zero, List.set_cons_succ, i64_w, i32_w]
          rfl
        refine join_ (σ := Nat × Option Addr × Nat × Option Addr × Nat) 2 #[true, true, true, true, true, true, true, true, true, true, true, true, true, false, false] (fun sg => [(26, .agg #[.int .i64 s, .slice sg.2.1 l.length sg.2.2.1]), (31, .agg #[.int .i64 n2, .slice sg.2.2.2.1 k.length sg.2.2.2.2]), (32, .agg #[.int .i64 s, .int .i64 n2, .slice sg.2.2.2.1 k.length sg.2.2.2.2]), (33, .tuple #[.agg #[.int .i64 0, .slice none 0 0], .int .i64 75]), (24, .tuple #[.agg #[.int .i64 0, .slice none 0 0], .int .i64 75]), (34, .agg #[.int .i64 0, .slice none 0 0]), (35, .int .i64 75), (7, .pointer (some ⟨sg.1, 0, none⟩))]) (fun sg w' => (Below w5.heap.size w5 w' ∧ Zbox w' sg.1 ∧ w5.heap.size ≤ sg.1)) ?_ ?_
        rotate_left
        · intro hCont
          refine two_ (i := 1) (j := 12) (Ni := some 26) (Nj := some 7) #[true, true, true, true, true, true, false, false, false, false, false, false, false, false, false] #[true, false, true, true, true, true, false, false, false, false, false, false, true, false, false] rfl rfl rfl rfl (two_of HT_.out (by kernel_rfl)) (by decide) (by decide) (fun K hK => ?_) (fun K hK => ?_)
          · skip
            refine goes_ Try.func10 (by kernel_rfl) rfl #[.agg #[.int .i64 s, .slice A l.length c]] (by rfl) rfl rfl (by simp only [List.map_toArray, List.map_cons, List.map_nil]; first | rfl | (refine congrArg List.toArray (congr (congrArg List.cons ?_) (congrArg (fun z => [z]) ?_)) <;> first | rfl | go_simp)) ?_
            with_reducible refine (copy_C l s A c _ (Kd.C_below C_l.out (bt (bt (bt N_w1.out N_w4.out) N_w5.out) (Below.refl w5.heap.size w5).drew)) hl Rb).mono ?_
            rintro e wq0 ⟨A1, c1, rfl, hc1, hC1, hb0⟩
            refine ⟨_, rfl, ?_⟩
            refine hK.out _ _ ⟨pw_cell_below hb0 (hHeld.1), pw_cell_below hb0 (hHeld.2.1), pw_cell_below hb0 (hHeld.2.2.1), pw_cell_below hb0 (hHeld.2.2.2.1), pw_cell_below hb0 (hHeld.2.2.2.2)⟩ (fun hHeld => ?_)
            clear hK K
            refine norm_ (a' := ?_) ?_ ?_
            rotate_left
            · show Act.put _ (some 26) _ = _
              simp only [Act.put, List.setIfInBounds_toArray, List.set_cons_zero, List.set_cons_succ, i64_w, i32_w]
              rfl
            refine two_ (i := 6) (j := 12) (Ni := some 31) (Nj := some 7) #[true, true, true, true, true, true, true, false, false, false, false, false, false, false, false] #[true, true, true, true, true, true, false, false, false, false, false, false, true, false, false] rfl rfl rfl rfl (two_of HT_.out (by kernel_rfl)) (by decide) (by decide) (fun K hK => ?_) (fun K hK => ?_)
            · skip
              refine goes_ Try.func10 (by kernel_rfl) rfl #[.agg #[.int .i64 n2, .slice B k.length d]] (by rfl) rfl rfl (by simp only [List.map_toArray, List.map_cons, List.map_nil]; first | rfl | (refine congrArg List.toArray (congr (congrArg List.cons ?_) (congrArg (fun z => [z]) ?_)) <;> first | rfl | go_simp)) ?_
              with_reducible refine (copy_C k n2 B d _ (Kd.C_below C_k.out (bt (bt (bt N_w1.out N_w4.out) N_w5.out) (bt (Below.refl w5.heap.size w5).drew hb0))) hm HQ).mono ?_
              rintro e wq1 ⟨A2, c2, rfl, hc2, hC2, hb1⟩
              refine ⟨_, rfl, ?_⟩
              refine hK.out _ _ ⟨pw_cell_below hb1 (hHeld.1), pw_cell_below hb1 (hHeld.2.1), pw_cell_below hb1 (hHeld.2.2.1), pw_cell_below hb1 (hHeld.2.2.2.1), pw_cell_below hb1 (hHeld.2.2.2.2)⟩ (fun hHeld => ?_)
              clear hK K
              refine norm_ (a' := ?_) ?_ ?_
              rotate_left
              · show Act.put _ (some 31) _ = _
                simp only [Act.put, List.setIfInBounds_toArray, List.set_cons_zero, List.set_cons_succ, i64_w, i32_w]
                rfl
              refine pure_ (i := 7) (N := some 32) (v := ?_) (a' := ?_) #[true, true, true, true, true, true, true, true, false, false, false, false, false, false, false] rfl rfl (any_of HT_.out (by kernel_rfl)) (fun _ _ _ h => h) (Or.inl ⟨by rfl, ?_⟩) ?_ ?_
              rotate_left
              · intro w'
                go_simp
                with_reducible rfl
              rotate_left
              · simp only [Act.put, List.setIfInBounds_toArray, List.set_cons_zero, List.set_cons_succ, i64_w, i32_w]
                rfl
              refine two_ (i := 8) (j := 12) (Ni := some 33) (Nj := some 7) #[true, true, true, true, true, true, true, true, true, false, false, false, false, false, false] #[true, true, true, true, true, true, true, true, false, false, false, false, true, false, false] rfl rfl rfl rfl (two_of HT_.out (by kernel_rfl)) (by decide) (by decide) (fun K hK => ?_) (fun K hK => ?_)
              · skip
                refine goes_ Try.func16 (by kernel_rfl) rfl #[.agg #[.int .i64 s, .slice A1 l.length c1], .agg #[.int .i64 s, .int .i64 n2, .slice A2 k.length c2]] (by rfl) rfl rfl (by simp only [List.map_toArray, List.map_cons, List.map_nil]; first | rfl | (refine congrArg List.toArray (congr (congrArg List.cons ?_) (congrArg (fun z => [z]) ?_)) <;> first | rfl | go_simp)) ?_
                with_reducible refine (apply_cnt l k s n2 A1 A2 c1 c2 _ Rb HQ h2).mono ?_
                rintro e wq2 ⟨rfl, hb2⟩
                refine ⟨_, rfl, ?_⟩
                refine hK.out _ _ ⟨pw_cell_below hb2 (hHeld.1), pw_cell_below hb2 (hHeld.2.1), pw_cell_below hb2 (hHeld.2.2.1), pw_cell_below hb2 (hHeld.2.2.2.1), pw_cell_below hb2 (hHeld.2.2.2.2)⟩ (fun hHeld => ?_)
                clear hK K
                refine norm_ (a' := ?_) ?_ ?_
                rotate_left
                · show Act.put _ (some 33) _ = _
                  simp only [Act.put, List.setIfInBounds_toArray, List.set_cons_zero, List.set_cons_succ, i64_w, i32_w]
                  rfl
                refine pure_ (i := 9) (N := some 24) (v := ?_) (a' := ?_) #[true, true, true, true, true, true, true, true, true, true, false, false, false, false, false] rfl rfl (any_of HT_.out (by kernel_rfl)) (fun _ _ _ h => h) (Or.inl ⟨by rfl, ?_⟩) ?_ ?_
                rotate_left
                · intro w'
                  go_simp
                  with_reducible rfl
                rotate_left
                · simp only [Act.put, List.setIfInBounds_toArray, List.set_cons_zero, List.set_cons_succ, i64_w, i32_w]
                  rfl
                refine pure_ (i := 10) (N := some 34) (v := ?_) (a' := ?_) #[true, true, true, true, true, true, true, true, true, true, true, false, false, false, false] rfl rfl (any_of HT_.out (by kernel_rfl)) (fun _ _ _ h => h) (Or.inl ⟨by rfl, ?_⟩) ?_ ?_
                rotate_left
                · intro w'
                  go_simp
                  with_reducible rfl
                rotate_left
                · simp only [Act.put, List.setIfInBounds_toArray, List.set_cons_zero, List.set_cons_succ, i64_w, i32_w]
                  rfl
                refine pure_ (i := 11) (N := some 35) (v := ?_) (a' := ?_) #[true, true, true, true, true, true, true, true, true, true, true, true, false, false, false] rfl rfl (any_of HT_.out (by kernel_rfl)) (fun _ _ _ h => h) (Or.inl ⟨by rfl, ?_⟩) ?_ ?_
                rotate_left
                · intro w'
                  go_simp
                  with_reducible rfl
                rotate_left
                · simp only [Act.put, List.setIfInBounds_toArray, List.set_cons_zero, List.set_cons_succ, i64_w, i32_w]
                  rfl
                refine one_ (i := 12) (N := some 7) #[true, true, true, true, true, true, true, true, true, true, true, true, true, false, false] rfl rfl (one_of HT_.out (by kernel_rfl)) (by decide) (fun K hK => ?_)
                refine value_ (w1 := ?_) (v := ?_) (by rfl) rfl ?_ ?_
                rotate_left 2
                · go_simp
                  constructor
                  · rfl
                  · rfl
                refine hK.out _ _ ⟨pw_cell_below (below1 _ _) (hHeld.1), pw_cell_below (below1 _ _) (hHeld.2.1), pw_cell_below (below1 _ _) (hHeld.2.2.1), pw_cell_below (below1 _ _) (hHeld.2.2.2.1), pw_cell_below (below1 _ _) (hHeld.2.2.2.2)⟩ (fun hHeld => ?_)
                clear hK K
                refine norm_ (a' := ?_) ?_ ?_
                rotate_left
                · show Act.put _ (some 7) _ = _
                  simp only [Act.put, List.setIfInBounds_toArray, List.set_cons_zero, List.set_cons_succ, i64_w, i32_w]
                  rfl
                exact norm_ (by simp only [putAll, Act.put, List.setIfInBounds_toArray, List.set_cons_zero, List.set_cons_succ]) (hCont (wq2.heap.size, A1, c1, A2, c2) _ ⟨(bt (bt (bt (bt (Below.refl w5.heap.size w5).drew hb0) hb1) hb2) (below1 _ (.cells #[.int .i64 0, .slice none 0 0] 24))), zbox_new _, ((bt (bt (bt (Below.refl w5.heap.size w5).drew hb0) hb1) hb2)).size⟩)
              · skip
                refine value_ (w1 := ?_) (v := ?_) (by rfl) rfl ?_ ?_
                rotate_left 2
                · go_simp
                  constructor
                  · rfl
                  · rfl
                refine hK.out _ _ ⟨pw_cell_below (below1 _ _) (hHeld.1), pw_cell_below (below1 _ _) (hHeld.2.1), pw_cell_below (below1 _ _) (hHeld.2.2.1), pw_cell_below (below1 _ _) (hHeld.2.2.2.1), pw_cell_below (below1 _ _) (hHeld.2.2.2.2)⟩ (fun hHeld => ?_)
                clear hK K
                refine norm_ (a' := ?_) ?_ ?_
                rotate_left
                · show Act.put _ (some 7) _ = _
                  simp only [Act.put, List.setIfInBounds_toArray, List.set_cons_zero, List.set_cons_succ, i64_w, i32_w]
                  rfl
                refine one_ (i := 8) (N := some 33) #[true, true, true, true, true, true, true, true, true, false, false, false, true, false, false] rfl rfl (one_of HT_.out (by kernel_rfl)) (by decide) (fun K hK => ?_)
                refine goes_ Try.func16 (by kernel_rfl) rfl #[.agg #[.int .i64 s, .slice A1 l.length c1], .agg #[.int .i64 s, .int .i64 n2, .slice A2 k.length c2]] (by rfl) rfl rfl (by simp only [List.map_toArray, List.map_cons, List.map_nil]; first | rfl | (refine congrArg List.toArray (congr (congrArg List.cons ?_) (congrArg (fun z => [z]) ?_)) <;> first | rfl | go_simp)) ?_
                with_reducible refine (apply_cnt l k s n2 A1 A2 c1 c2 _ Rb HQ h2).mono ?_
                rintro e wq2 ⟨rfl, hb2⟩
                refine ⟨_, rfl, ?_⟩
                refine hK.out _ _ ⟨pw_cell_below hb2 (hHeld.1), pw_cell_below hb2 (hHeld.2.1), pw_cell_below hb2 (hHeld.2.2.1), pw_cell_below hb2 (hHeld.2.2.2.1), pw_cell_below hb2 (hHeld.2.2.2.2)⟩ (fun hHeld => ?_)
                clear hK K
                refine norm_ (a' := ?_) ?_ ?_
                rotate_left
                · show Act.put _ (some 33) _ = _
                  simp only [Act.put, List.setIfInBounds_toArray, List.set_cons_zero, List.set_cons_succ, i64_w, i32_w]
                  rfl
                refine pure_ (i := 9) (N := some 24) (v := ?_) (a' := ?_) #[true, true, true, true, true, true, true, true, true, true, false, false, true, false, false] rfl rfl (any_of HT_.out (by kernel_rfl)) (fun _ _ _ h => h) (Or.inl ⟨by rfl, ?_⟩) ?_ ?_
                rotate_left
                · intro w'
                  go_simp
                  with_reducible rfl
                rotate_left
                · simp only [Act.put, List.setIfInBounds_toArray, List.set_cons_zero, List.set_cons_succ, i64_w, i32_w]
                  rfl
                refine pure_ (i := 10) (N := some 34) (v := ?_) (a' := ?_) #[true, true, true, true, true, true, true, true, true, true, true, false, true, false, false] rfl rfl (any_of HT_.out (by kernel_rfl)) (fun _ _ _ h => h) (Or.inl ⟨by rfl, ?_⟩) ?_ ?_
                rotate_left
                · intro w'
                  go_simp
                  with_reducible rfl
                rotate_left
                · simp only [Act.put, List.setIfInBounds_toArray, List.set_cons_zero, List.set_cons_succ, i64_w, i32_w]
                  rfl
                refine pure_ (i := 11) (N := some 35) (v := ?_) (a' := ?_) #[true, true, true, true, true, true, true, true, true, true, true, true, true, false, false] rfl rfl (any_of HT_.out (by kernel_rfl)) (fun _ _ _ h => h) (Or.inl ⟨by rfl, ?_⟩) ?_ ?_
                rotate_left
                · intro w'
                  go_simp
                  with_reducible rfl
                rotate_left
                · simp only [Act.put, List.setIfInBounds_toArray, List.set_cons_zero, List.set_cons_succ, i64_w, i32_w]
                  rfl
                exact norm_ (by simp only [putAll, Act.put, List.setIfInBounds_toArray, List.set_cons_zero, List.set_cons_succ]) (hCont (wq1.heap.size, A1, c1, A2, c2) _ ⟨(bt (bt (bt (bt (Below.refl w5.heap.size w5).drew hb0) hb1) (below1 _ (.cells #[.int .i64 0, .slice none 0 0] 24))) hb2), (zbox_new _).below hb2, ((bt (bt (Below.refl w5.heap.size w5).drew hb0) hb1)).size⟩)
            · skip
              refine value_ (w1 := ?_) (v := ?_) (by rfl) rfl ?_ ?_
              rotate_left 2
              · go_simp
                constructor
                · rfl
                · rfl
              refine hK.out _ _ ⟨pw_cell_below (below1 _ _) (hHeld.1), pw_cell_below (below1 _ _) (hHeld.2.1), pw_cell_below (below1 _ _) (hHeld.2.2.1), pw_cell_below (below1 _ _) (hHeld.2.2.2.1), pw_cell_below (below1 _ _) (hHeld.2.2.2.2)⟩ (fun hHeld => ?_)
              clear hK K
              refine norm_ (a' := ?_) ?_ ?_
              rotate_left
              · show Act.put _ (some 7) _ = _
                simp only [Act.put, List.setIfInBounds_toArray, List.set_cons_zero, List.set_cons_succ, i64_w, i32_w]
                rfl
              refine one_ (i := 6) (N := some 31) #[true, true, true, true, true, true, true, false, false, false, false, false, true, false, false] rfl rfl (one_of HT_.out (by kernel_rfl)) (by decide) (fun K hK => ?_)
              refine goes_ Try.func10 (by kernel_rfl) rfl #[.agg #[.int .i64 n2, .slice B k.length d]] (by rfl) rfl rfl (by simp only [List.map_toArray, List.map_cons, List.map_nil]; first | rfl | (refine congrArg List.toArray (congr (congrArg List.cons ?_) (congrArg (fun z => [z]) ?_)) <;> first | rfl | go_simp)) ?_
              with_reducible refine (copy_C k n2 B d _ (Kd.C_below C_k.out (bt (bt (bt N_w1.out N_w4.out) N_w5.out) (bt (bt (Below.refl w5.heap.size w5).drew hb0) (below1 _ (.cells #[.int .i64 0, .slice none 0 0] 24))))) hm HQ).mono ?_
              rintro e wq1 ⟨A2, c2, rfl, hc2, hC2, hb1⟩
              refine ⟨_, rfl, ?_⟩
              refine hK.out _ _ ⟨pw_cell_below hb1 (hHeld.1), pw_cell_below hb1 (hHeld.2.1), pw_cell_below hb1 (hHeld.2.2.1), pw_cell_below hb1 (hHeld.2.2.2.1), pw_cell_below hb1 (hHeld.2.2.2.2)⟩ (fun hHeld => ?_)
              clear hK K
              refine norm_ (a' := ?_) ?_ ?_
              rotate_left
              · show Act.put _ (some 31) _ = _
                simp only [Act.put, List.setIfInBounds_toArray, List.set_cons_zero, List.set_cons_succ, i64_w, i32_w]
                rfl
              refine pure_ (i := 7) (N := some 32) (v := ?_) (a' := ?_) #[true, true, true, true, true, true, true, true, false, false, false, false, true, false, false] rfl rfl (any_of HT_.out (by kernel_rfl)) (fun _ _ _ h => h) (Or.inl ⟨by rfl, ?_⟩) ?_ ?_
              rotate_left
              · intro w'
                go_simp
                with_reducible rfl
              rotate_left
              · simp only [Act.put, List.setIfInBounds_toArray, List.set_cons_zero, List.set_cons_succ, i64_w, i32_w]
                rfl
              refine one_ (i := 8) (N := some 33) #[true, true, true, true, true, true, true, true, true, false, false, false, true, false, false] rfl rfl (one_of HT_.out (by kernel_rfl)) (by decide) (fun K hK => ?_)
              refine goes_ Try.func16 (by kernel_rfl) rfl #[.agg #[.int .i64 s, .slice A1 l.length c1], .agg #[.int .i64 s, .int .i64 n2, .slice A2 k.length c2]] (by rfl) rfl rfl (by simp only [List.map_toArray, List.map_cons, List.map_nil]; first | rfl | (refine congrArg List.toArray (congr (congrArg List.cons ?_) (congrArg (fun z => [z]) ?_)) <;> first | rfl | go_simp)) ?_
              with_reducible refine (apply_cnt l k s n2 A1 A2 c1 c2 _ Rb HQ h2).mono ?_
              rintro e wq2 ⟨rfl, hb2⟩
              refine ⟨_, rfl, ?_⟩
              refine hK.out _ _ ⟨pw_cell_below hb2 (hHeld.1), pw_cell_below hb2 (hHeld.2.1), pw_cell_below hb2 (hHeld.2.2.1), pw_cell_below hb2 (hHeld.2.2.2.1), pw_cell_below hb2 (hHeld.2.2.2.2)⟩ (fun hHeld => ?_)
              clear hK K
              refine norm_ (a' := ?_) ?_ ?_
              rotate_left
              · show Act.put _ (some 33) _ = _
                simp only [Act.put, List.setIfInBounds_toArray, List.set_cons_zero, List.set_cons_succ, i64_w, i32_w]
                rfl
              refine pure_ (i := 9) (N := some 24) (v := ?_) (a' := ?_) #[true, true, true, true, true, true, true, true, true, true, false, false, true, false, false] rfl rfl (any_of HT_.out (by kernel_rfl)) (fun _ _ _ h => h) (Or.inl ⟨by rfl, ?_⟩) ?_ ?_
              rotate_left
              · intro w'
                go_simp
                with_reducible rfl
              rotate_left
              · simp only [Act.put, List.setIfInBounds_toArray, List.set_cons_zero, List.set_cons_succ, i64_w, i32_w]
                rfl
              refine pure_ (i := 10) (N := some 34) (v := ?_) (a' := ?_) #[true, true, true, true, true, true, true, true, true, true, true, false, true, false, false] rfl rfl (any_of HT_.out (by kernel_rfl)) (fun _ _ _ h => h) (Or.inl ⟨by rfl, ?_⟩) ?_ ?_
              rotate_left
              · intro w'
                go_simp
                with_reducible rfl
              rotate_left
              · simp only [Act.put, List.setIfInBounds_toArray, List.set_cons_zero, List.set_cons_succ, i64_w, i32_w]
                rfl
              refine pure_ (i := 11) (N := some 35) (v := ?_) (a' := ?_) #[true, true, true, true, true, true, true, true, true, true, true, true, true, false, false] rfl rfl (any_of HT_.out (by kernel_rfl)) (fun _ _ _ h => h) (Or.inl ⟨by rfl, ?_⟩) ?_ ?_
              rotate_left
              · intro w'
                go_simp
                with_reducible rfl
              rotate_left
              · simp only [Act.put, List.setIfInBounds_toArray, List.set_cons_zero, List.set_cons_succ, i64_w, i32_w]
                rfl
              exact norm_ (by simp only [putAll, Act.put, List.setIfInBounds_toArray, List.set_cons_zero, List.set_cons_succ]) (hCont (wq0.heap.size, A1, c1, A2, c2) _ ⟨(bt (bt (bt (bt (Below.refl w5.heap.size w5).drew hb0) (below1 _ (.cells #[.int .i64 0, .slice none 0 0] 24))) hb1) hb2), ((zbox_new _).below hb1).below hb2, ((bt (Below.refl w5.heap.size w5).drew hb0)).size⟩)
          · skip
            refine value_ (w1 := ?_) (v := ?_) (by rfl) rfl ?_ ?_
            rotate_left 2
            · go_simp
              constructor
              · rfl
              · rfl
            refine hK.out _ _ ⟨pw_cell_below (below1 _ _) (hHeld.1), pw_cell_below (below1 _ _) (hHeld.2.1), pw_cell_below (below1 _ _) (hHeld.2.2.1), pw_cell_below (below1 _ _) (hHeld.2.2.2.1), pw_cell_below (below1 _ _) (hHeld.2.2.2.2)⟩ (fun hHeld => ?_)
            clear hK K
            refine norm_ (a' := ?_) ?_ ?_
            rotate_left
            · show Act.put _ (some 7) _ = _
              simp only [Act.put, List.setIfInBounds_toArray, List.set_cons_zero, List.set_cons_succ, i64_w, i32_w]
              rfl
            refine one_ (i := 1) (N := some 26) #[true, true, true, true, true, true, false, false, false, false, false, false, true, false, false] rfl rfl (one_of HT_.out (by kernel_rfl)) (by decide) (fun K hK => ?_)
            refine goes_ Try.func10 (by kernel_rfl) rfl #[.agg #[.int .i64 s, .slice A l.length c]] (by rfl) rfl rfl (by simp only [List.map_toArray, List.map_cons, List.map_nil]; first | rfl | (refine congrArg List.toArray (congr (congrArg List.cons ?_) (congrArg (fun z => [z]) ?_)) <;> first | rfl | go_simp)) ?_
            with_reducible refine (copy_C l s A c _ (Kd.C_below C_l.out (bt (bt (bt N_w1.out N_w4.out) N_w5.out) (below1 w5 (.cells #[.int .i64 0, .slice none 0 0] 24)).drew)) hl Rb).mono ?_
            rintro e wq0 ⟨A1, c1, rfl, hc1, hC1, hb0⟩
            refine ⟨_, rfl, ?_⟩
            refine hK.out _ _ ⟨pw_cell_below hb0 (hHeld.1), pw_cell_below hb0 (hHeld.2.1), pw_cell_below hb0 (hHeld.2.2.1), pw_cell_below hb0 (hHeld.2.2.2.1), pw_cell_below hb0 (hHeld.2.2.2.2)⟩ (fun hHeld => ?_)
            clear hK K
            refine norm_ (a' := ?_) ?_ ?_
            rotate_left
            · show Act.put _ (some 26) _ = _
              simp only [Act.put, List.setIfInBounds_toArray, List.set_cons_zero, List.set_cons_succ, i64_w, i32_w]
              rfl
            refine one_ (i := 6) (N := some 31) #[true, true, true, true, true, true, true, false, false, false, false, false, true, false, false] rfl rfl (one_of HT_.out (by kernel_rfl)) (by decide) (fun K hK => ?_)
            refine goes_ Try.func10 (by kernel_rfl) rfl #[.agg #[.int .i64 n2, .slice B k.length d]] (by rfl) rfl rfl (by simp only [List.map_toArray, List.map_cons, List.map_nil]; first | rfl | (refine congrArg List.toArray (congr (congrArg List.cons ?_) (congrArg (fun z => [z]) ?_)) <;> first | rfl | go_simp)) ?_
            with_reducible refine (copy_C k n2 B d _ (Kd.C_below C_k.out (bt (bt (bt N_w1.out N_w4.out) N_w5.out) (bt (below1 w5 (.cells #[.int .i64 0, .slice none 0 0] 24)).drew hb0))) hm HQ).mono ?_
            rintro e wq1 ⟨A2, c2, rfl, hc2, hC2, hb1⟩
            refine ⟨_, rfl, ?_⟩
            refine hK.out _ _ ⟨pw_cell_below hb1 (hHeld.1), pw_cell_below hb1 (hHeld.2.1), pw_cell_below hb1 (hHeld.2.2.1), pw_cell_below hb1 (hHeld.2.2.2.1), pw_cell_below hb1 (hHeld.2.2.2.2)⟩ (fun hHeld => ?_)
            clear hK K
            refine norm_ (a' := ?_) ?_ ?_
            rotate_left
            · show Act.put _ (some 31) _ = _
              simp only [Act.put, List.setIfInBounds_toArray, List.set_cons_zero, List.set_cons_succ, i64_w, i32_w]
              rfl
            refine pure_ (i := 7) (N := some 32) (v := ?_) (a' := ?_) #[true, true, true, true, true, true, true, true, false, false, false, false, true, false, false] rfl rfl (any_of HT_.out (by kernel_rfl)) (fun _ _ _ h => h) (Or.inl ⟨by rfl, ?_⟩) ?_ ?_
            rotate_left
            · intro w'
              go_simp
              with_reducible rfl
            rotate_left
            · simp only [Act.put, List.setIfInBounds_toArray, List.set_cons_zero, List.set_cons_succ, i64_w, i32_w]
              rfl
            refine one_ (i := 8) (N := some 33) #[true, true, true, true, true, true, true, true, true, false, false, false, true, false, false] rfl rfl (one_of HT_.out (by kernel_rfl)) (by decide) (fun K hK => ?_)
            refine goes_ Try.func16 (by kernel_rfl) rfl #[.agg #[.int .i64 s, .slice A1 l.length c1], .agg #[.int .i64 s, .int .i64 n2, .slice A2 k.length c2]] (by rfl) rfl rfl (by simp only [List.map_toArray, List.map_cons, List.map_nil]; first | rfl | (refine congrArg List.toArray (congr (congrArg List.cons ?_) (congrArg (fun z => [z]) ?_)) <;> first | rfl | go_simp)) ?_
            with_reducible refine (apply_cnt l k s n2 A1 A2 c1 c2 _ Rb HQ h2).mono ?_
            rintro e wq2 ⟨rfl, hb2⟩
            refine ⟨_, rfl, ?_⟩
            refine hK.out _ _ ⟨pw_cell_below hb2 (hHeld.1), pw_cell_below hb2 (hHeld.2.1), pw_cell_below hb2 (hHeld.2.2.1), pw_cell_below hb2 (hHeld.2.2.2.1), pw_cell_below hb2 (hHeld.2.2.2.2)⟩ (fun hHeld => ?_)
            clear hK K
            refine norm_ (a' := ?_) ?_ ?_
            rotate_left
            · show Act.put _ (some 33) _ = _
              simp only [Act.put, List.setIfInBounds_toArray, List.set_cons_zero, List.set_cons_succ, i64_w, i32_w]
              rfl
            refine pure_ (i := 9) (N := some 24) (v := ?_) (a' := ?_) #[true, true, true, true, true, true, true, true, true, true, false, false, true, false, false] rfl rfl (any_of HT_.out (by kernel_rfl)) (fun _ _ _ h => h) (Or.inl ⟨by rfl, ?_⟩) ?_ ?_
            rotate_left
            · intro w'
              go_simp
              with_reducible rfl
            rotate_left
            · simp only [Act.put, List.setIfInBounds_toArray, List.set_cons_zero, List.set_cons_succ, i64_w, i32_w]
              rfl
            refine pure_ (i := 10) (N := some 34) (v := ?_) (a' := ?_) #[true, true, true, true, true, true, true, true, true, true, true, false, true, false, false] rfl rfl (any_of HT_.out (by kernel_rfl)) (fun _ _ _ h => h) (Or.inl ⟨by rfl, ?_⟩) ?_ ?_
            rotate_left
            · intro w'
              go_simp
              with_reducible rfl
            rotate_left
            · simp only [Act.put, List.setIfInBounds_toArray, List.set_cons_zero, List.set_cons_succ, i64_w, i32_w]
              rfl
            refine pure_ (i := 11) (N := some 35) (v := ?_) (a' := ?_) #[true, true, true, true, true, true, true, true, true, true, true, true, true, false, false] rfl rfl (any_of HT_.out (by kernel_rfl)) (fun _ _ _ h => h) (Or.inl ⟨by rfl, ?_⟩) ?_ ?_
            rotate_left
            · intro w'
              go_simp
              with_reducible rfl
            rotate_left
            · simp only [Act.put, List.setIfInBounds_toArray, List.set_cons_zero, List.set_cons_succ, i64_w, i32_w]
              rfl
            exact norm_ (by simp only [putAll, Act.put, List.setIfInBounds_toArray, List.set_cons_zero, List.set_cons_succ]) (hCont (w5.heap.size, A1, c1, A2, c2) _ ⟨(bt (bt (bt (below1 w5 (.cells #[.int .i64 0, .slice none 0 0] 24)).drew hb0) hb1) hb2), ((((zbox_new w5).below (Below.refl _ _).drew).below hb0).below hb1).below hb2, Nat.le_refl _⟩)
        rintro ⟨g7, A1, c1, A2, c2⟩ wx7 ⟨hF1, hF2, hF3⟩
        have k0 := hF2.c0
        have k1 := hF2.c1
        have kf := hF2.fr
        refine norm_ (a' := ?_) ?_ ?_
        rotate_left
        · simp only [putAll, Act.put, List.setIfInBounds_toArray, List.set_cons_zero, List.set_cons_succ]
          rfl
        refine last_ (i := 13) (N := none) #[true, true, true, true, true, true, true, true, true, true, true, true, true, true, false] rfl rfl (one_of HT_.out (by kernel_rfl)) (by decide) (fun K hK => ?_)
        refine skip_ (w1 := ?_) (by rfl) rfl ?_ ?_
        rotate_left
        · go_simp
          rfl
        refine hK.out _ _ ?_
        clear hK K
        refine pure_ (i := 14) (N := some 8) (v := ?_) (a' := ?_) #[true, true, true, true, true, true, true, true, true, true, true, true, true, true, true] rfl rfl (any_of HT_.out (by kernel_rfl)) (fun _ _ _ h => h) (Or.inl ⟨by rfl, ?_⟩) ?_ ?_
        rotate_left
        · intro w'
          go_simp
          with_reducible rfl
        rotate_left
        · simp only [Act.put, List.setIfInBounds_toArray, List.set_cons_zero, List.set_cons_succ, i64_w, i32_w]
          rfl
        refine done_ (done_of HT_.out (by kernel_rfl)) ?_
        obtain ⟨hs1, hs2, hs3⟩ := stored0 hF1 hF2 hF3
        generalize ((wx7.setCell ⟨g7, 0, none⟩ (.int .i64 0)).setCell ⟨g7, 1, none⟩ (.slice none 0 0)) = w8 at *
        clear hF1 hF2 hF3 k0 k1 kf
        have N_w8 := Lib.hid hs1
        have B_x_0 := Lib.hid hs2
        have B_x_1 := Lib.hid hs3
        clear hs1 hs2 hs3
        have V_v_0 : World.cell? w8 ⟨w.heap.size, 0, none⟩ = some (.int .i64 s) := pw_cell_below (bt (bt N_w4.out N_w5.out) N_w8.out) B_v_0.out
        have V_v_1 : World.cell? w8 ⟨w.heap.size, 1, none⟩ = some (.slice A l.length c) := pw_cell_below (bt (bt N_w4.out N_w5.out) N_w8.out) B_v_1.out
        have V_d_0 : World.cell? w8 ⟨w.heap.size + 1, 0, none⟩ = some (.int .i64 s) := pw_cell_below (bt (bt N_w4.out N_w5.out) N_w8.out) B_d_0.out
        have V_d_1 : World.cell? w8 ⟨w.heap.size + 1, 1, none⟩ = some (.int .i64 n2) := pw_cell_below (bt (bt N_w4.out N_w5.out) N_w8.out) B_d_1.out
        have V_d_2 : World.cell? w8 ⟨w.heap.size + 1, 2, none⟩ = some (.slice B k.length d) := pw_cell_below (bt (bt N_w4.out N_w5.out) N_w8.out) B_d_2.out
        go_wp2
        go_ret
        exact ⟨rfl, (bt (bt (bt N_w1.out N_w4.out) N_w5.out) N_w8.out)⟩
      have t10 : decide ((256 : Int) < (l.length : Int) + (k.length : Int)) = false := decide_eq_false (by omega)
      by_cases h3 : wrap64 (wrap64 (bsize l) + wrap64 (bsize k)) ≤ 65536
      case neg =>
        have t12 : decide ((65536 : Int) < wrap64 (wrap64 (bsize l) + wrap64 (bsize k))) = true := decide_eq_true (Int.not_le.1 h3)
        refine start_ (n := 15) (S := fun w' => w'.cell? ⟨w.heap.size, 0, none⟩ = some (.int .i64 s) ∧ w'.cell? ⟨w.heap.size, 1, none⟩ = some (.slice A l.length c) ∧ w'.cell? ⟨w.heap.size + 1, 0, none⟩ = some (.int .i64 s) ∧ w'.cell? ⟨w.heap.size + 1, 1, none⟩ = some (.int .i64 n2) ∧ w'.cell? ⟨w.heap.size + 1, 2, none⟩ = some (.slice B k.length d)) (ds := [13]) #[false, false, false, false, false, false, false, false, false, false, false, false, false, false, false] (by kernel_rfl) rfl rfl ⟨pw_cell_below (bt (bt N_w4.out N_w5.out) (Below.refl _ _).drew) B_v_0.out, pw_cell_below (bt (bt N_w4.out N_w5.out) (Below.refl _ _).drew) B_v_1.out, pw_cell_below (bt (bt N_w4.out N_w5.out) (Below.refl _ _).drew) B_d_0.out, pw_cell_below (bt (bt N_w4.out N_w5.out) (Below.refl _ _).drew) B_d_1.out, pw_cell_below (bt (bt N_w4.out N_w5.out) (Below.refl _ _).drew) B_d_2.out⟩ (fun hHeld => ?_)
        refine with_tabW fL.tab7 fL.bits7 (fun HT_ HW_ => ?_)
        refine pure_ (i := 2) (N := some 27) (v := ?_) (a' := ?_) #[false, false, true, false, false, false, false, false, false, false, false, false, false, false, false] rfl rfl (any_of HT_.out (by kernel_rfl)) (fun _ _ _ h => h) (Or.inl ⟨by rfl, ?_⟩) ?_ ?_
        rotate_left
        · intro w'
          go_simp
          with_reducible rfl
        rotate_left
        · simp only [Act.put, List.setIfInBounds_toArray, List.set_cons_zero, List.set_cons_succ, i64_w, i32_w]
          rfl
        refine pure_ (i := 4) (N := some 29) (v := ?_) (a' := ?_) #[false, false, true, false, true, false, false, false, false, false, false, false, false, false, false] rfl rfl (any_of HT_.out (by kernel_rfl)) (fun _ _ _ h => h) (Or.inl ⟨by rfl, ?_⟩) ?_ ?_
        rotate_left
        · intro w'
          go_simp
          with_reducible rfl
        rotate_left
        · simp only [Act.put, List.setIfInBounds_toArray, List.set_cons_zero, List.set_cons_succ, i64_w, i32_w]
          rfl
        refine take_ (i := 0) (N := some 25) (v := ?_) (a' := ?_) #[true, false, true, false, true, false, false, false, false, false, false, false, false, false, false] rfl rfl (take_ofW HT_.out HW_.out (by kernel_rfl)) (fun _ _ _ h => h) (Or.inl ⟨by rfl, ?_⟩) hHeld ?_ ?_
        rotate_left
        · rintro w' ⟨s0, s1, s2, s3, s4⟩
          go_simp
          with_reducible rfl
        rotate_left
        · simp only [Act.put, List.setIfInBounds_toArray, List.set_cons_zero, List.set_cons_succ, i64_w, i32_w]
          rfl
        refine take_ (i := 3) (N := some 28) (v := ?_) (a' := ?_) #[true, false, true, true, true, false, false, false, false, false, false, false, false, false, false] rfl rfl (take_ofW HT_.out HW_.out (by kernel_rfl)) (fun _ _ _ h => h) (Or.inl ⟨by rfl, ?_⟩) hHeld ?_ ?_
        rotate_left
        · rintro w' ⟨s0, s1, s2, s3, s4⟩
          go_simp
          with_reducible rfl
        rotate_left
        · simp only [Act.put, List.setIfInBounds_toArray, List.set_cons_zero, List.set_cons_succ, i64_w, i32_w]
          rfl
        refine take_ (i := 5) (N := some 30) (v := ?_) (a' := ?_) #[true, false, true, true, true, true, false, false, false, false, false, false, false, false, false] rfl rfl (take_ofW HT_.out HW_.out (by kernel_rfl)) (fun _ _ _ h => h) (Or.inl ⟨by rfl, ?_⟩) hHeld ?_ ?_
        rotate_left
        · rintro w' ⟨s0, s1, s2, s3, s4⟩
          go_simp
          with_reducible rfl
        rotate_left
        · simp only [Act.put, List.setIfInBounds_toArray, List.set_cons_zero, List.set_cons_succ, i64_w, i32_w]
          rfl
        refine join_ (σ := Nat × Option Addr × Nat × Option Addr × Nat) 2 #[true, true, true, true, true, true, true, true, true, true, true, true, true, false, false] (fun sg => [(26, .agg #[.int .i64 s, .slice sg.2.1 l.length sg.2.2.1]), (31, .agg #[.int .i64 n2, .slice sg.2.2.2.1 k.length sg.2.2.2.2]), (32, .agg #[.int .i64 s, .int .i64 n2, .slice sg.2.2.2.1 k.length sg.2.2.2.2]), (33, .tuple #[.agg #[.int .i64 0, .slice none 0 0], .int .i64 76]), (24, .tuple #[.agg #[.int .i64 0, .slice none 0 0], .int .i64 76]), (34, .agg #[.int .i64 0, .slice none 0 0]), (35, .int .i64 76), (7, .pointer (some ⟨sg.1, 0, none⟩))]) (fun sg w' => (Below w5.heap.size w5 w' ∧ Zbox w' sg.1 ∧ w5.heap.size ≤ sg.1)) ?_ ?_
        rotate_left
        · intro hCont
          refine two_ (i := 1) (j := 12) (Ni := some 26) (Nj := some 7) #[true, true, true, true, true, true, false, false, false, false, false, false, false, false, false] #[true, false, true, true, true, true, false, false, false, false, false, false, true, false, false] rfl rfl rfl rfl (two_of HT_.out (by kernel_rfl)) (by decide) (by decide) (fun K hK => ?_) (fun K hK => ?_)
          · skip
            refine goes_ Try.func10 (by kernel_rfl) rfl #[.agg #[.int .i64 s, .slice A l.length c]] (by rfl) rfl rfl (by simp only [List.map_toArray, List.map_cons, List.map_nil]; first | rfl | (refine congrArg List.toArray (congr (congrArg List.cons ?_) (congrArg (fun z => [z]) ?_)) <;> first | rfl | go_simp)) ?_
            with_reducible refine (copy_C l s A c _ (Kd.C_below C_l.out (bt (bt (bt N_w1.out N_w4.out) N_w5.out) (Below.refl w5.heap.size w5).drew)) hl Rb).mono ?_
            rintro e wq0 ⟨A1, c1, rfl, hc1, hC1, hb0⟩
            refine ⟨_, rfl, ?_⟩
            refine hK.out _ _ ⟨pw_cell_below hb0 (hHeld.1), pw_cell_below hb0 (hHeld.2.1), pw_cell_below hb0 (hHeld.2.2.1), pw_cell_below hb0 (hHeld.2.2.2.1), pw_cell_below hb0 (hHeld.2.2.2.2)⟩ (fun hHeld => ?_)
            clear hK K
            refine norm_ (a' := ?_) ?_ ?_
            rotate_left
            · show Act.put _ (some 26) _ = _
              simp only [Act.put, List.setIfInBounds_toArray, List.set_cons_zero, List.set_cons_succ, i64_w, i32_w]
              rfl
            refine two_ (i := 6) (j := 12) (Ni := some 31) (Nj := some 7) #[true, true, true, true, true, true, true, false, false, false, false, false, false, false, false] #[true, true, true, true, true, true, false, false, false, false, false, false, true, false, false] rfl rfl rfl rfl (two_of HT_.out (by kernel_rfl)) (by decide) (by decide) (fun K hK => ?_) (fun K hK => ?_)
            · skip
              refine goes_ Try.func10 (by kernel_rfl) rfl #[.agg #[.int .i64 n2, .slice B k.length d]] (by rfl) rfl rfl (by simp only [List.map_toArray, List.map_cons, List.map_nil]; first | rfl | (refine congrArg List.toArray (congr (congrArg List.cons ?_) (congrArg (fun z => [z]) ?_)) <;> first | rfl | go_simp)) ?_
              with_reducible refine (copy_C k n2 B d _ (Kd.C_below C_k.out (bt (bt (bt N_w1.out N_w4.out) N_w5.out) (bt (Below.refl w5.heap.size w5).drew hb0))) hm HQ).mono ?_
              rintro e wq1 ⟨A2, c2, rfl, hc2, hC2, hb1⟩
              refine ⟨_, rfl, ?_⟩
              refine hK.out _ _ ⟨pw_cell_below hb1 (hHeld.1), pw_cell_below hb1 (hHeld.2.1), pw_cell_below hb1 (hHeld.2.2.1), pw_cell_below hb1 (hHeld.2.2.2.1), pw_cell_below hb1 (hHeld.2.2.2.2)⟩ (fun hHeld => ?_)
              clear hK K
              refine norm_ (a' := ?_) ?_ ?_
              rotate_left
              · show Act.put _ (some 31) _ = _
                simp only [Act.put, List.setIfInBounds_toArray, List.set_cons_zero, List.set_cons_succ, i64_w, i32_w]
                rfl
              refine pure_ (i := 7) (N := some 32) (v := ?_) (a' := ?_) #[true, true, true, true, true, true, true, true, false, false, false, false, false, false, false] rfl rfl (any_of HT_.out (by kernel_rfl)) (fun _ _ _ h => h) (Or.inl ⟨by rfl, ?_⟩) ?_ ?_
              rotate_left
              · intro w'
                go_simp
                with_reducible rfl
              rotate_left
              · simp only [Act.put, List.setIfInBounds_toArray, List.set_cons_zero, List.set_cons_succ, i64_w, i32_w]
                rfl
              refine two_ (i := 8) (j := 12) (Ni := some 33) (Nj := some 7) #[true, true, true, true, true, true, true, true, true, false, false, false, false, false, false] #[true, true, true, true, true, true, true, true, false, false, false, false, true, false, false] rfl rfl rfl rfl (two_of HT_.out (by kernel_rfl)) (by decide) (by decide) (fun K hK => ?_) (fun K hK => ?_)
              · skip
                refine goes_ Try.func16 (by kernel_rfl) rfl #[.agg #[.int .i64 s, .slice A1 l.length c1], .agg #[.int .i64 s, .int .i64 n2, .slice A2 k.length c2]] (by rfl) rfl rfl (by simp only [List.map_toArray, List.map_cons, List.map_nil]; first | rfl | (refine congrArg List.toArray (congr (congrArg List.cons ?_) (congrArg (fun z => [z]) ?_)) <;> first | rfl | go_simp)) ?_
                with_reducible refine (apply_byt l k s n2 A1 A2 c1 c2 _ (Kd.C_below hC1 hb1) hc1 Rb (Kd.C_below hC2 (Below.refl _ _)) hc2 HQ h2 h3).mono ?_
                rintro e wq2 ⟨rfl, hb2⟩
                refine ⟨_, rfl, ?_⟩
                refine hK.out _ _ ⟨pw_cell_below hb2 (hHeld.1), pw_cell_below hb2 (hHeld.2.1), pw_cell_below hb2 (hHeld.2.2.1), pw_cell_below hb2 (hHeld.2.2.2.1), pw_cell_below hb2 (hHeld.2.2.2.2)⟩ (fun hHeld => ?_)
                clear hK K
                refine norm_ (a' := ?_) ?_ ?_
                rotate_left
                · show Act.put _ (some 33) _ = _
                  simp only [Act.put, List.setIfInBounds_toArray, List.set_cons_zero, List.set_cons_succ, i64_w, i32_w]
                  rfl
                refine pure_ (i := 9) (N := some 24) (v := ?_) (a' := ?_) #[true, true, true, true, true, true, true, true, true, true, false, false, false, false, false] rfl rfl (any_of HT_.out (by kernel_rfl)) (fun _ _ _ h => h) (Or.inl ⟨by rfl, ?_⟩) ?_ ?_
                rotate_left
                · intro w'
                  go_simp
                  with_reducible rfl
                rotate_left
                · simp only [Act.put, List.setIfInBounds_toArray, List.set_cons_zero, List.set_cons_succ, i64_w, i32_w]
                  rfl
                refine pure_ (i := 10) (N := some 34) (v := ?_) (a' := ?_) #[true, true, true, true, true, true, true, true, true, true, true, false, false, false, false] rfl rfl (any_of HT_.out (by kernel_rfl)) (fun _ _ _ h => h) (Or.inl ⟨by rfl, ?_⟩) ?_ ?_
                rotate_left
                · intro w'
                  go_simp
                  with_reducible rfl
                rotate_left
                · simp only [Act.put, List.setIfInBounds_toArray, List.set_cons_zero, List.set_cons_succ, i64_w, i32_w]
                  rfl
                refine pure_ (i := 11) (N := some 35) (v := ?_) (a' := ?_) #[true, true, true, true, true, true, true, true, true, true, true, true, false, false, false] rfl rfl (any_of HT_.out (by kernel_rfl)) (fun _ _ _ h => h) (Or.inl ⟨by rfl, ?_⟩) ?_ ?_
                rotate_left
                · intro w'
                  go_simp
                  with_reducible rfl
                rotate_left
                · simp only [Act.put, List.setIfInBounds_toArray, List.set_cons_zero, List.set_cons_succ, i64_w, i32_w]
                  rfl
                refine one_ (i := 12) (N := some 7) #[true, true, true, true, true, true, true, true, true, true, true, true, true, false, false] rfl rfl (one_of HT_.out (by kernel_rfl)) (by decide) (fun K hK => ?_)
                refine value_ (w1 := ?_) (v := ?_) (by rfl) rfl ?_ ?_
                rotate_left 2
                · go_simp
                  constructor
                  · rfl
                  · rfl
                refine hK.out _ _ ⟨pw_cell_below (below1 _ _) (hHeld.1), pw_cell_below (below1 _ _) (hHeld.2.1), pw_cell_below (below1 _ _) (hHeld.2.2.1), pw_cell_below (below1 _ _) (hHeld.2.2.2.1), pw_cell_below (below1 _ _) (hHeld.2.2.2.2)⟩ (fun hHeld => ?_)
                clear hK K
                refine norm_ (a' := ?_) ?_ ?_
                rotate_left
                · show Act.put _ (some 7) _ = _
                  simp only [Act.put, List.setIfInBounds_toArray, List.set_cons_zero, List.set_cons_succ, i64_w, i32_w]
                  rfl
                exact norm_ (by simp only [putAll, Act.put, List.setIfInBounds_toArray, List.set_cons_zero, List.set_cons_succ]) (hCont (wq2.heap.size, A1, c1, A2, c2) _ ⟨(bt (bt (bt (bt (Below.refl w5.heap.size w5).drew hb0) hb1) hb2) (below1 _ (.cells #[.int .i64 0, .slice none 0 0] 24))), zbox_new _, ((bt (bt (bt (Below.refl w5.heap.size w5).drew hb0) hb1) hb2)).size⟩)
              · skip
                refine value_ (w1 := ?_) (v := ?_) (by rfl) rfl ?_ ?_
                rotate_left 2
                · go_simp
                  constructor
                  · rfl
                  · rfl
                refine hK.out _ _ ⟨pw_cell_below (below1 _ _) (hHeld.1), pw_cell_below (below1 _ _) (hHeld.2.1), pw_cell_below (below1 _ _) (hHeld.2.2.1), pw_cell_below (below1 _ _) (hHeld.2.2.2.1), pw_cell_below (below1 _ _) (hHeld.2.2.2.2)⟩ (fun hHeld => ?_)
                clear hK K
                refine norm_ (a' := ?_) ?_ ?_
                rotate_left
                · show Act.put _ (some 7) _ = _
                  simp only [Act.put, List.setIfInBounds_toArray, List.set_cons_zero, List.set_cons_succ, i64_w, i32_w]
                  rfl
                refine one_ (i := 8) (N := some 33) #[true, true, true, true, true, true, true, true, true, false, false, false, true, false, false] rfl rfl (one_of HT_.out (by kernel_rfl)) (by decide) (fun K hK => ?_)
                refine goes_ Try.func16 (by kernel_rfl) rfl #[.agg #[.int .i64 s, .slice A1 l.length c1], .agg #[.int .i64 s, .int .i64 n2, .slice A2 k.length c2]] (by rfl) rfl rfl (by simp only [List.map_toArray, List.map_cons, List.map_nil]; first | rfl | (refine congrArg List.toArray (congr (congrArg List.cons ?_) (congrArg (fun z => [z]) ?_)) <;> first | rfl | go_simp)) ?_
                with_reducible refine (apply_byt l k s n2 A1 A2 c1 c2 _ (Kd.C_below hC1 (bt hb1 (below1 _ (.cells #[.int .i64 0, .slice none 0 0] 24)))) hc1 Rb (Kd.C_below hC2 (below1 _ (.cells #[.int .i64 0, .slice none 0 0] 24))) hc2 HQ h2 h3).mono ?_
                rintro e wq2 ⟨rfl, hb2⟩
                refine ⟨_, rfl, ?_⟩
                refine hK.out _ _ ⟨pw_cell_below hb2 (hHeld.1), pw_cell_below hb2 (hHeld.2.1), pw_cell_below hb2 (hHeld.2.2.1), pw_cell_below hb2 (hHeld.2.2.2.1), pw_cell_below hb2 (hHeld.2.2.2.2)⟩ (fun hHeld => ?_)
                clear hK K
                refine norm_ (a' := ?_) ?_ ?_
                rotate_left
                · show Act.put _ (some 33) _ = _
                  simp only [Act.put, List.setIfInBounds_toArray, List.set_cons_zero, List.set_cons_succ, i64_w, i32_w]
                  rfl
                refine pure_ (i := 9) (N := some 24) (v := ?_) (a' := ?_) #[true, true, true, true, true, true, true, true, true, true, false, false, true, false, false] rfl rfl (any_of HT_.out (by kernel_rfl)) (fun _ _ _ h => h) (Or.inl ⟨by rfl, ?_⟩) ?_ ?_
                rotate_left
                · intro w'
                  go_simp
                  with_reducible rfl
                rotate_left
                · simp only [Act.put, List.setIfInBounds_toArray, List.set_cons_zero, List.set_cons_succ, i64_w, i32_w]
                  rfl
                refine pure_ (i := 10) (N := some 34) (v := ?_) (a' := ?_) #[true, true, true, true, true, true, true, true, true, true, true, false, true, false, false] rfl rfl (any_of HT_.out (by kernel_rfl)) (fun _ _ _ h => h) (Or.inl ⟨by rfl, ?_⟩) ?_ ?_
                rotate_left
                · intro w'
                  go_simp
                  with_reducible rfl
                rotate_left
                · simp only [Act.put, List.setIfInBounds_toArray, List.set_cons_zero, List.set_cons_succ, i64_w, i32_w]
                  rfl
                refine pure_ (i := 11) (N := some 35) (v := ?_) (a' := ?_) #[true, true, true, true, true, true, true, true, true, true, true, true, true, false, false] rfl rfl (any_of HT_.out (by kernel_rfl)) (fun _ _ _ h => h) (Or.inl ⟨by rfl, ?_⟩) ?_ ?_
                rotate_left
                · intro w'
                  go_simp
                  with_reducible rfl
                rotate_left
                · simp only [Act.put, List.setIfInBounds_toArray, List.set_cons_zero, List.set_cons_succ, i64_w, i32_w]
                  rfl
                exact norm_ (by simp only [putAll, Act.put, List.setIfInBounds_toArray, List.set_cons_zero, List.set_cons_succ]) (hCont (wq1.heap.size, A1, c1, A2, c2) _ ⟨(bt (bt (bt (bt (Below.refl w5.heap.size w5).drew hb0) hb1) (below1 _ (.cells #[.int .i64 0, .slice none 0 0] 24))) hb2), (zbox_new _).below hb2, ((bt (bt (Below.refl w5.heap.size w5).drew hb0) hb1)).size⟩)
            · skip
              refine value_ (w1 := ?_) (v := ?_) (by rfl) rfl ?_ ?_
              rotate_left 2
              · go_simp
                constructor
                · rfl
                · rfl
              refine hK.out _ _ ⟨pw_cell_below (below1 _ _) (hHeld.1), pw_cell_below (below1 _ _) (hHeld.2.1), pw_cell_below (below1 _ _) (hHeld.2.2.1), pw_cell_below (below1 _ _) (hHeld.2.2.2.1), pw_cell_below (below1 _ _) (hHeld.2.2.2.2)⟩ (fun hHeld => ?_)
              clear hK K
              refine norm_ (a' := ?_) ?_ ?_
              rotate_left
              · show Act.put _ (some 7) _ = _
                simp only [Act.put, List.setIfInBounds_toArray, List.set_cons_zero, List.set_cons_succ, i64_w, i32_w]
                rfl
              refine one_ (i := 6) (N := some 31) #[true, true, true, true, true, true, true, false, false, false, false, false, true, false, false] rfl rfl (one_of HT_.out (by kernel_rfl)) (by decide) (fun K hK => ?_)
              refine goes_ Try.func10 (by kernel_rfl) rfl #[.agg #[.int .i64 n2, .slice B k.length d]] (by rfl) rfl rfl (by simp only [List.map_toArray, List.map_cons, List.map_nil]; first | rfl | (refine congrArg List.toArray (congr (congrArg List.cons ?_) (congrArg (fun z => [z]) ?_)) <;> first | rfl | go_simp)) ?_
              with_reducible refine (copy_C k n2 B d _ (Kd.C_below C_k.out (bt (bt (bt N_w1.out N_w4.out) N_w5.out) (bt (bt (Below.refl w5.heap.size w5).drew hb0) (below1 _ (.cells #[.int .i64 0, .slice none 0 0] 24))))) hm HQ).mono ?_
              rintro e wq1 ⟨A2, c2, rfl, hc2, hC2, hb1⟩
              refine ⟨_, rfl, ?_⟩
              refine hK.out _ _ ⟨pw_cell_below hb1 (hHeld.1), pw_cell_below hb1 (hHeld.2.1), pw_cell_below hb1 (hHeld.2.2.1), pw_cell_below hb1 (hHeld.2.2.2.1), pw_cell_below hb1 (hHeld.2.2.2.2)⟩ (fun hHeld => ?_)
              clear hK K
              refine norm_ (a' := ?_) ?_ ?_
              rotate_left
              · show Act.put _ (some 31) _ = _
                simp only [Act.put, List.setIfInBounds_toArray, List.set_cons_zero, List.set_cons_succ, i64_w, i32_w]
                rfl
              refine pure_ (i := 7) (N := some 32) (v := ?_) (a' := ?_) #[true, true, true, true, true, true, true, true, false, false, false, false, true, false, false] rfl rfl (any_of HT_.out (by kernel_rfl)) (fun _ _ _ h => h) (Or.inl ⟨by rfl, ?_⟩) ?_ ?_
              rotate_left
              · intro w'
                go_simp
                with_reducible rfl
              rotate_left
              · simp only [Act.put, List.setIfInBounds_toArray, List.set_cons_zero, List.set_cons_succ, i64_w, i32_w]
                rfl
              refine one_ (i := 8) (N := some 33) #[true, true, true, true, true, true, true, true, true, false, false, false, true, false, false] rfl rfl (one_of HT_.out (by kernel_rfl)) (by decide) (fun K hK => ?_)
              refine goes_ Try.func16 (by kernel_rfl) rfl #[.agg #[.int .i64 s, .slice A1 l.length c1], .agg #[.int .i64 s, .int .i64 n2, .slice A2 k.length c2]] (by rfl) rfl rfl (by simp only [List.map_toArray, List.map_cons, List.map_nil]; first | rfl | (refine congrArg List.toArray (congr (congrArg List.cons ?_) (congrArg (fun z => [z]) ?_)) <;> first | rfl | go_simp)) ?_
              with_reducible refine (apply_byt l k s n2 A1 A2 c1 c2 _ (Kd.C_below hC1 (bt (below1 _ (.cells #[.int .i64 0, .slice none 0 0] 24)) hb1)) hc1 Rb (Kd.C_below hC2 (Below.refl _ _)) hc2 HQ h2 h3).mono ?_
              rintro e wq2 ⟨rfl, hb2⟩
              refine ⟨_, rfl, ?_⟩
              refine hK.out _ _ ⟨pw_cell_below hb2 (hHeld.1), pw_cell_below hb2 (hHeld.2.1), pw_cell_below hb2 (hHeld.2.2.1), pw_cell_below hb2 (hHeld.2.2.2.1), pw_cell_below hb2 (hHeld.2.2.2.2)⟩ (fun hHeld => ?_)
              clear hK K
              refine norm_ (a' := ?_) ?_ ?_
              rotate_left
              · show Act.put _ (some 33) _ = _
                simp only [Act.put, List.setIfInBounds_toArray, List.set_cons_zero, List.set_cons_succ, i64_w, i32_w]
                rfl
              refine pure_ (i := 9) (N := some 24) (v := ?_) (a' := ?_) #[true, true, true, true, true, true, true, true, true, true, false, false, true, false, false] rfl rfl (any_of HT_.out (by kernel_rfl)) (fun _ _ _ h => h) (Or.inl ⟨by rfl, ?_⟩) ?_ ?_
              rotate_left
              · intro w'
                go_simp
                with_reducible rfl
              rotate_left
              · simp only [Act.put, List.setIfInBounds_toArray, List.set_cons_zero, List.set_cons_succ, i64_w, i32_w]
                rfl
              refine pure_ (i := 10) (N := some 34) (v := ?_) (a' := ?_) #[true, true, true, true, true, true, true, true, true, true, true, false, true, false, false] rfl rfl (any_of HT_.out (by kernel_rfl)) (fun _ _ _ h => h) (Or.inl ⟨by rfl, ?_⟩) ?_ ?_
              rotate_left
              · intro w'
                go_simp
                with_reducible rfl
              rotate_left
              · simp only [Act.put, List.setIfInBounds_toArray, List.set_cons_zero, List.set_cons_succ, i64_w, i32_w]
                rfl
              refine pure_ (i := 11) (N := some 35) (v := ?_) (a' := ?_) #[true, true, true, true, true, true, true, true, true, true, true, true, true, false, false] rfl rfl (any_of HT_.out (by kernel_rfl)) (fun _ _ _ h => h) (Or.inl ⟨by rfl, ?_⟩) ?_ ?_
              rotate_left
              · intro w'
                go_simp
                with_reducible rfl
              rotate_left
              · simp only [Act.put, List.setIfInBounds_toArray, List.set_cons_zero, List.set_cons_succ, i64_w, i32_w]
                rfl
              exact norm_ (by simp only [putAll, Act.put, List.setIfInBounds_toArray, List.set_cons_zero, List.set_cons_succ]) (hCont (wq0.heap.size, A1, c1, A2, c2) _ ⟨(bt (bt (bt (bt (Below.refl w5.heap.size w5).drew hb0) (below1 _ (.cells #[.int .i64 0, .slice none 0 0] 24))) hb1) hb2), ((zbox_new _).below hb1).below hb2, ((bt (Below.refl w5.heap.size w5).drew hb0)).size⟩)
          · skip
            refine value_ (w1 := ?_) (v := ?_) (by rfl) rfl ?_ ?_
            rotate_left 2
            · go_simp
              constructor
              · rfl
              · rfl
            refine hK.out _ _ ⟨pw_cell_below (below1 _ _) (hHeld.1), pw_cell_below (below1 _ _) (hHeld.2.1), pw_cell_below (below1 _ _) (hHeld.2.2.1), pw_cell_below (below1 _ _) (hHeld.2.2.2.1), pw_cell_below (below1 _ _) (hHeld.2.2.2.2)⟩ (fun hHeld => ?_)
            clear hK K
            refine norm_ (a' := ?_) ?_ ?_
            rotate_left
            · show Act.put _ (some 7) _ = _
              simp only [Act.put, List.setIfInBounds_toArray, List.set_cons_zero, List.set_cons_succ, i64_w, i32_w]
              rfl
            refine one_ (i := 1) (N := some 26) #[true, true, true, true, true, true, false, false, false, false, false, false, true, false, false] rfl rfl (one_of HT_.out (by kernel_rfl)) (by decide) (fun K hK => ?_)
            refine goes_ Try.func10 (by kernel_rfl) rfl #[.agg #[.int .i64 s, .slice A l.length c]] (by rfl) rfl rfl (by simp only [List.map_toArray, List.map_cons, List.map_nil]; first | rfl | (refine congrArg List.toArray (congr (congrArg List.cons ?_) (congrArg (fun z => [z]) ?_)) <;> first | rfl | go_simp)) ?_
            with_reducible refine (copy_C l s A c _ (Kd.C_below C_l.out (bt (bt (bt N_w1.out N_w4.out) N_w5.out) (below1 w5 (.cells #[.int .i64 0, .slice none 0 0] 24)).drew)) hl Rb).mono ?_
            rintro e wq0 ⟨A1, c1, rfl, hc1, hC1, hb0⟩
            refine ⟨_, rfl, ?_⟩
            refine hK.out _ _ ⟨pw_cell_below hb0 (hHeld.1), pw_cell_below hb0 (hHeld.2.1), pw_cell_below hb0 (hHeld.2.2.1), pw_cell_below hb0 (hHeld.2.2.2.1), pw_cell_below hb0 (hHeld.2.2.2.2)⟩ (fun hHeld => ?_)
            clear hK K
            refine norm_ (a' := ?_) ?_ ?_
            rotate_left
            · show Act.put _ (some 26) _ = _
              simp only [Act.put, List.setIfInBounds_toArray, List.set_cons_zero, List.set_cons_succ, i64_w, i32_w]
              rfl
            refine one_ (i := 6) (N := some 31) #[true, true, true, true, true, true, true, false, false, false, false, false, true, false, false] rfl rfl (one_of HT_.out (by kernel_rfl)) (by decide) (fun K hK => ?_)
            refine goes_ Try.func10 (by kernel_rfl) rfl #[.agg #[.int .i64 n2, .slice B k.length d]] (by rfl) rfl rfl (by simp only [List.map_toArray, List.map_cons, List.map_nil]; first | rfl | (refine congrArg List.toArray (congr (congrArg List.cons ?_) (congrArg (fun z => [z]) ?_)) <;> first | rfl | go_simp)) ?_
            with_reducible refine (copy_C k n2 B d _ (Kd.C_below C_k.out (bt (bt (bt N_w1.out N_w4.out) N_w5.out) (bt (below1 w5 (.cells #[.int .i64 0, .slice none 0 0] 24)).drew hb0))) hm HQ).mono ?_
            rintro e wq1 ⟨A2, c2, rfl, hc2, hC2, hb1⟩
            refine ⟨_, rfl, ?_⟩
            refine hK.out _ _ ⟨pw_cell_below hb1 (hHeld.1), pw_cell_below hb1 (hHeld.2.1), pw_cell_below hb1 (hHeld.2.2.1), pw_cell_below hb1 (hHeld.2.2.2.1), pw_cell_below hb1 (hHeld.2.2.2.2)⟩ (fun hHeld => ?_)
            clear hK K
            refine norm_ (a' := ?_) ?_ ?_
            rotate_left
            · show Act.put _ (some 31) _ = _
              simp only [Act.put, List.setIfInBounds_toArray, List.set_cons_zero, List.set_cons_succ, i64_w, i32_w]
              rfl
            refine pure_ (i := 7) (N := some 32) (v := ?_) (a' := ?_) #[true, true, true, true, true, true, true, true, false, false, false, false, true, false, false] rfl rfl (any_of HT_.out (by kernel_rfl)) (fun _ _ _ h => h) (Or.inl ⟨by rfl, ?_⟩) ?_ ?_
            rotate_left
            · intro w'
              go_simp
              with_reducible rfl
            rotate_left
            · simp only [Act.put, List.setIfInBounds_toArray, List.set_cons_zero, List.set_cons_succ, i64_w, i32_w]
              rfl
            refine one_ (i := 8) (N := some 33) #[true, true, true, true, true, true, true, true, true, false, false, false, true, false, false] rfl rfl (one_of HT_.out (by kernel_rfl)) (by decide) (fun K hK => ?_)
            refine goes_ Try.func16 (by kernel_rfl) rfl #[.agg #[.int .i64 s, .slice A1 l.length c1], .agg #[.int .i64 s, .int .i64 n2, .slice A2 k.length c2]] (by rfl) rfl rfl (by simp only [List.map_toArray, List.map_cons, List.map_nil]; first | rfl | (refine congrArg List.toArray (congr (congrArg List.cons ?_) (congrArg (fun z => [z]) ?_)) <;> first | rfl | go_simp)) ?_
            with_reducible refine (apply_byt l k s n2 A1 A2 c1 c2 _ (Kd.C_below hC1 hb1) hc1 Rb (Kd.C_below hC2 (Below.refl _ _)) hc2 HQ h2 h3).mono ?_
            rintro e wq2 ⟨rfl, hb2⟩
            refine ⟨_, rfl, ?_⟩
            refine hK.out _ _ ⟨pw_cell_below hb2 (hHeld.1), pw_cell_below hb2 (hHeld.2.1), pw_cell_below hb2 (hHeld.2.2.1), pw_cell_below hb2 (hHeld.2.2.2.1), pw_cell_below hb2 (hHeld.2.2.2.2)⟩ (fun hHeld => ?_)
            clear hK K
            refine norm_ (a' := ?_) ?_ ?_
            rotate_left
            · show Act.put _ (some 33) _ = _
              simp only [Act.put, List.setIfInBounds_toArray, List.set_cons_zero, List.set_cons_succ, i64_w, i32_w]
              rfl
            refine pure_ (i := 9) (N := some 24) (v := ?_) (a' := ?_) #[true, true, true, true, true, true, true, true, true, true, false, false, true, false, false] rfl rfl (any_of HT_.out (by kernel_rfl)) (fun _ _ _ h => h) (Or.inl ⟨by rfl, ?_⟩) ?_ ?_
            rotate_left
            · intro w'
              go_simp
              with_reducible rfl
            rotate_left
            · simp only [Act.put, List.setIfInBounds_toArray, List.set_cons_zero, List.set_cons_succ, i64_w, i32_w]
              rfl
            refine pure_ (i := 10) (N := some 34) (v := ?_) (a' := ?_) #[true, true, true, true, true, true, true, true, true, true, true, false, true, false, false] rfl rfl (any_of HT_.out (by kernel_rfl)) (fun _ _ _ h => h) (Or.inl ⟨by rfl, ?_⟩) ?_ ?_
            rotate_left
            · intro w'
              go_simp
              with_reducible rfl
            rotate_left
            · simp only [Act.put, List.setIfInBounds_toArray, List.set_cons_zero, List.set_cons_succ, i64_w, i32_w]
              rfl
            refine pure_ (i := 11) (N := some 35) (v := ?_) (a' := ?_) #[true, true, true, true, true, true, true, true, true, true, true, true, true, false, false] rfl rfl (any_of HT_.out (by kernel_rfl)) (fun _ _ _ h => h) (Or.inl ⟨by rfl, ?_⟩) ?_ ?_
            rotate_left
            · intro w'
              go_simp
              with_reducible rfl
            rotate_left
            · simp only [Act.put, List.setIfInBounds_toArray, List.set_cons_zero, List.set_cons_succ, i64_w, i32_w]
              rfl
            exact norm_ (by simp only [putAll, Act.put, List.setIfInBounds_toArray, List.set_cons_zero, List.set_cons_succ]) (hCont (w5.heap.size, A1, c1, A2, c2) _ ⟨(bt (bt (bt (below1 w5 (.cells #[.int .i64 0, .slice none 0 0] 24)).drew hb0) hb1) hb2), ((((zbox_new w5).below (Below.refl _ _).drew).below hb0).below hb1).below hb2, Nat.le_refl _⟩)
        rintro ⟨g7, A1, c1, A2, c2⟩ wx7 ⟨hF1, hF2, hF3⟩
        have k0 := hF2.c0
        have k1 := hF2.c1
        have kf := hF2.fr
        refine norm_ (a' := ?_) ?_ ?_
        rotate_left
        · simp only [putAll, Act.put, List.setIfInBounds_toArray, List.set_cons_zero, List.set_cons_succ]
          rfl
        refine last_ (i := 13) (N := none) #[true, true, true, true, true, true, true, true, true, true, true, true, true, true, false] rfl rfl (one_of HT_.out (by kernel_rfl)) (by decide) (fun K hK => ?_)
        refine skip_ (w1 := ?_) (by rfl) rfl ?_ ?_
        rotate_left
        · go_simp
          rfl
        refine hK.out _ _ ?_
        clear hK K
        refine pure_ (i := 14) (N := some 8) (v := ?_) (a' := ?_) #[true, true, true, true, true, true, true, true, true, true, true, true, true, true, true] rfl rfl (any_of HT_.out (by kernel_rfl)) (fun _ _ _ h => h) (Or.inl ⟨by rfl, ?_⟩) ?_ ?_
        rotate_left
        · intro w'
          go_simp
          with_reducible rfl
        rotate_left
        · simp only [Act.put, List.setIfInBounds_toArray, List.set_cons_zero, List.set_cons_succ, i64_w, i32_w]
          rfl
        refine done_ (done_of HT_.out (by kernel_rfl)) ?_
        obtain ⟨hs1, hs2, hs3⟩ := stored0 hF1 hF2 hF3
        generalize ((wx7.setCell ⟨g7, 0, none⟩ (.int .i64 0)).setCell ⟨g7, 1, none⟩ (.slice none 0 0)) = w8 at *
        clear hF1 hF2 hF3 k0 k1 kf
        have N_w8 := Lib.hid hs1
        have B_x_0 := Lib.hid hs2
        have B_x_1 := Lib.hid hs3
        clear hs1 hs2 hs3
        have V_v_0 : World.cell? w8 ⟨w.heap.size, 0, none⟩ = some (.int .i64 s) := pw_cell_below (bt (bt N_w4.out N_w5.out) N_w8.out) B_v_0.out
        have V_v_1 : World.cell? w8 ⟨w.heap.size, 1, none⟩ = some (.slice A l.length c) := pw_cell_below (bt (bt N_w4.out N_w5.out) N_w8.out) B_v_1.out
        have V_d_0 : World.cell? w8 ⟨w.heap.size + 1, 0, none⟩ = some (.int .i64 s) := pw_cell_below (bt (bt N_w4.out N_w5.out) N_w8.out) B_d_0.out
        have V_d_1 : World.cell? w8 ⟨w.heap.size + 1, 1, none⟩ = some (.int .i64 n2) := pw_cell_below (bt (bt N_w4.out N_w5.out) N_w8.out) B_d_1.out
        have V_d_2 : World.cell? w8 ⟨w.heap.size + 1, 2, none⟩ = some (.slice B k.length d) := pw_cell_below (bt (bt N_w4.out N_w5.out) N_w8.out) B_d_2.out
        go_upto_region 12 with fail
        clear V_v_0 V_v_1 V_d_0 V_d_1 V_d_2
        refine start_ (n := 7) (S := fun w' => w'.cell? ⟨w.heap.size, 0, none⟩ = some (.int .i64 s) ∧ w'.cell? ⟨w.heap.size, 1, none⟩ = some (.slice A l.length c) ∧ w'.cell? ⟨w.heap.size + 1, 0, none⟩ = some (.int .i64 s) ∧ w'.cell? ⟨w.heap.size + 1, 1, none⟩ = some (.int .i64 n2) ∧ w'.cell? ⟨w.heap.size + 1, 2, none⟩ = some (.slice B k.length d)) (ds := []) #[false, false, false, false, false, false, false] (by kernel_rfl) rfl rfl ⟨pw_cell_below (bt (bt (bt N_w4.out N_w5.out) N_w8.out) (Below.refl _ _).drew) B_v_0.out, pw_cell_below (bt (bt (bt N_w4.out N_w5.out) N_w8.out) (Below.refl _ _).drew) B_v_1.out, pw_cell_below (bt (bt (bt N_w4.out N_w5.out) N_w8.out) (Below.refl _ _).drew) B_d_0.out, pw_cell_below (bt (bt (bt N_w4.out N_w5.out) N_w8.out) (Below.refl _ _).drew) B_d_1.out, pw_cell_below (bt (bt (bt N_w4.out N_w5.out) N_w8.out) (Below.refl _ _).drew) B_d_2.out⟩ (fun hHeld => ?_)
        refine with_tabW fL.tab12 fL.bits12 (fun HT_ HW_ => ?_)
        refine pure_ (i := 2) (N := some 61) (v := ?_) (a' := ?_) #[false, false, true, false, false, false, false] rfl rfl (any_of HT_.out (by kernel_rfl)) (fun _ _ _ h => h) (Or.inl ⟨by rfl, ?_⟩) ?_ ?_
        rotate_left
        · intro w'
          go_simp
          with_reducible rfl
        rotate_left
        · simp only [Act.put, List.setIfInBounds_toArray, List.set_cons_zero, List.set_cons_succ, i64_w, i32_w]
          rfl
        refine take_ (i := 0) (N := some 59) (v := ?_) (a' := ?_) #[true, false, true, false, false, false, false] rfl rfl (take_ofW HT_.out HW_.out (by kernel_rfl)) (fun _ _ _ h => h) (Or.inl ⟨by rfl, ?_⟩) hHeld ?_ ?_
        rotate_left
        · rintro w' ⟨s0, s1, s2, s3, s4⟩
          go_simp
          with_reducible rfl
        rotate_left
        · simp only [Act.put, List.setIfInBounds_toArray, List.set_cons_zero, List.set_cons_succ, i64_w, i32_w]
          rfl
        refine take_ (i := 3) (N := some 62) (v := ?_) (a' := ?_) #[true, false, true, true, false, false, false] rfl rfl (take_ofW HT_.out HW_.out (by kernel_rfl)) (fun _ _ _ h => h) (Or.inl ⟨by rfl, ?_⟩) hHeld ?_ ?_
        rotate_left
        · rintro w' ⟨s0, s1, s2, s3, s4⟩
          go_simp
          with_reducible rfl
        rotate_left
        · simp only [Act.put, List.setIfInBounds_toArray, List.set_cons_zero, List.set_cons_succ, i64_w, i32_w]
          rfl
        refine one_ (i := 1) (N := some 60) #[true, true, true, true, false, false, false] rfl rfl (one_of HT_.out (by kernel_rfl)) (by decide) (fun K hK => ?_)
        refine goes_ Try.func21 (by kernel_rfl) rfl #[.agg #[.int .i64 s, .slice A l.length c]] (by rfl) rfl rfl (by simp only [List.map_toArray, List.map_cons, List.map_nil]; first | rfl | (refine congrArg List.toArray (congr (congrArg List.cons ?_) (congrArg (fun z => [z]) ?_)) <;> first | rfl | go_simp)) ?_
        with_reducible refine (refBytes_any l s A c _ (Kd.C_below C_l.out (bt (bt (bt (bt N_w1.out N_w4.out) N_w5.out) N_w8.out) (Below.refl w8.heap.size w8).drew)) hl Rb.fits).mono ?_
        rintro e wy0 ⟨rfl, hy0⟩
        refine ⟨_, rfl, ?_⟩
        refine hK.out _ _ ⟨pw_cell_below hy0 (hHeld.1), pw_cell_below hy0 (hHeld.2.1), pw_cell_below hy0 (hHeld.2.2.1), pw_cell_below hy0 (hHeld.2.2.2.1), pw_cell_below hy0 (hHeld.2.2.2.2)⟩ (fun hHeld => ?_)
        clear hK K
        refine norm_ (a' := ?_) ?_ ?_
        rotate_left
        · show Act.put _ (some 60) _ = _
          simp only [Act.put, List.setIfInBounds_toArray, List.set_cons_zero, List.set_cons_succ, i64_w, i32_w]
          rfl
        refine one_ (i := 4) (N := some 63) #[true, true, true, true, true, false, false] rfl rfl (one_of HT_.out (by kernel_rfl)) (by decide) (fun K hK => ?_)
        refine goes_ Try.func21 (by kernel_rfl) rfl #[.agg #[.int .i64 n2, .slice B k.length d]] (by rfl) rfl rfl (by simp only [List.map_toArray, List.map_cons, List.map_nil]; first | rfl | (refine congrArg List.toArray (congr (congrArg List.cons ?_) (congrArg (fun z => [z]) ?_)) <;> first | rfl | go_simp)) ?_
        with_reducible refine (refBytes_any k n2 B d _ (Kd.C_below C_k.out (bt (bt (bt (bt N_w1.out N_w4.out) N_w5.out) N_w8.out) (bt (Below.refl w8.heap.size w8).drew hy0))) hm HQ.fits).mono ?_
        rintro e wy1 ⟨rfl, hy1⟩
        refine ⟨_, rfl, ?_⟩
        refine hK.out _ _ ⟨pw_cell_below hy1 (hHeld.1), pw_cell_below hy1 (hHeld.2.1), pw_cell_below hy1 (hHeld.2.2.1), pw_cell_below hy1 (hHeld.2.2.2.1), pw_cell_below hy1 (hHeld.2.2.2.2)⟩ (fun hHeld => ?_)
        clear hK K
        refine norm_ (a' := ?_) ?_ ?_
        rotate_left
        · show Act.put _ (some 63) _ = _
          simp only [Act.put, List.setIfInBounds_toArray, List.set_cons_zero, List.set_cons_succ, i64_w, i32_w]
          rfl
        refine pure_ (i := 5) (N := some 64) (v := ?_) (a' := ?_) #[true, true, true, true, true, true, false] rfl rfl (any_of HT_.out (by kernel_rfl)) (fun _ _ _ h => h) (Or.inl ⟨by rfl, ?_⟩) ?_ ?_
        rotate_left
        · intro w'
          go_simp
          with_reducible rfl
        rotate_left
        · simp only [Act.put, List.setIfInBounds_toArray, List.set_cons_zero, List.set_cons_succ, i64_w, i32_w]
          rfl
        refine pure_ (i := 6) (N := some 65) (v := ?_) (a' := ?_) #[true, true, true, true, true, true, true] rfl rfl (any_of HT_.out (by kernel_rfl)) (fun _ _ _ h => h) (Or.inl ⟨by rfl, ?_⟩) ?_ ?_
        rotate_left
        · intro w'
          go_simp
          with_reducible rfl
        rotate_left
        · simp only [Act.put, List.setIfInBounds_toArray, List.set_cons_zero, List.set_cons_succ, i64_w, i32_w]
          rfl
        refine done_ (done_of HT_.out (by kernel_rfl)) ?_
        have N_wy1 := Lib.hid (bt (bt (Below.refl w8.heap.size w8).drew hy0) hy1)
        clear hy0 hy1 hHeld
        go_wp2
        go_ret
        exact ⟨rfl, (bt (bt (bt (bt N_w1.out N_w4.out) N_w5.out) N_w8.out) N_wy1.out)⟩
      have t12 : decide ((65536 : Int) < wrap64 (wrap64 (bsize l) + wrap64 (bsize k))) = false := decide_eq_false (Int.not_lt.2 h3)
      have la := lay_all rt dt.rt
      have lr := lay_right rt dt h2 h3
      have ll := lay_lower rt dt
      have li := lay_in l k
      have RX := room_mrg Rb HQ h2
      have tl : (((mrg l k).length : Int) != (l.length : Int) + (k.length : Int)) = false := by rw [len_mrg]; simp
      refine start_ (n := 15) (S := fun w' => w'.cell? ⟨w.heap.size, 0, none⟩ = some (.int .i64 s) ∧ w'.cell? ⟨w.heap.size, 1, none⟩ = some (.slice A l.length c) ∧ w'.cell? ⟨w.heap.size + 1, 0, none⟩ = some (.int .i64 s) ∧ w'.cell? ⟨w.heap.size + 1, 1, none⟩ = some (.int .i64 n2) ∧ w'.cell? ⟨w.heap.size + 1, 2, none⟩ = some (.slice B k.length d)) (ds := [13]) #[false, false, false, false, false, false, false, false, false, false, false, false, false, false, false] (by kernel_rfl) rfl rfl ⟨pw_cell_below (bt (bt N_w4.out N_w5.out) (Below.refl _ _).drew) B_v_0.out, pw_cell_below (bt (bt N_w4.out N_w5.out) (Below.refl _ _).drew) B_v_1.out, pw_cell_below (bt (bt N_w4.out N_w5.out) (Below.refl _ _).drew) B_d_0.out, pw_cell_below (bt (bt N_w4.out N_w5.out) (Below.refl _ _).drew) B_d_1.out, pw_cell_below (bt (bt N_w4.out N_w5.out) (Below.refl _ _).drew) B_d_2.out⟩ (fun hHeld => ?_)
      refine with_tabW fL.tab7 fL.bits7 (fun HT_ HW_ => ?_)
      refine pure_ (i := 2) (N := some 27) (v := ?_) (a' := ?_) #[false, false, true, false, false, false, false, false, false, false, false, false, false, false, false] rfl rfl (any_of HT_.out (by kernel_rfl)) (fun _ _ _ h => h) (Or.inl ⟨by rfl, ?_⟩) ?_ ?_
      rotate_left
      · intro w'
        go_simp
        with_reducible rfl
      rotate_left
      · simp only [Act.put, List.setIfInBounds_toArray, List.set_cons_zero, List.set_cons_succ, i64_w, i32_w]
        rfl
      refine pure_ (i := 4) (N := some 29) (v := ?_) (a' := ?_) #[false, false, true, false, true, false, false, false, false, false, false, false, false, false, false] rfl rfl (any_of HT_.out (by kernel_rfl)) (fun _ _ _ h => h) (Or.inl ⟨by rfl, ?_⟩) ?_ ?_
      rotate_left
      · intro w'
        go_simp
        with_reducible rfl
      rotate_left
      · simp only [Act.put, List.setIfInBounds_toArray, List.set_cons_zero, List.set_cons_succ, i64_w, i32_w]
        rfl
      refine take_ (i := 0) (N := some 25) (v := ?_) (a' := ?_) #[true, false, true, false, true, false, false, false, false, false, false, false, false, false, false] rfl rfl (take_ofW HT_.out HW_.out (by kernel_rfl)) (fun _ _ _ h => h) (Or.inl ⟨by rfl, ?_⟩) hHeld ?_ ?_
      rotate_left
      · rintro w' ⟨s0, s1, s2, s3, s4⟩
        go_simp
        with_reducible rfl
      rotate_left
      · simp only [Act.put, List.setIfInBounds_toArray, List.set_cons_zero, List.set_cons_succ, i64_w, i32_w]
        rfl
      refine take_ (i := 3) (N := some 28) (v := ?_) (a' := ?_) #[true, false, true, true, true, false, false, false, false, false, false, false, false, false, false] rfl rfl (take_ofW HT_.out HW_.out (by kernel_rfl)) (fun _ _ _ h => h) (Or.inl ⟨by rfl, ?_⟩) hHeld ?_ ?_
      rotate_left
      · rintro w' ⟨s0, s1, s2, s3, s4⟩
        go_simp
        with_reducible rfl
      rotate_left
      · simp only [Act.put, List.setIfInBounds_toArray, List.set_cons_zero, List.set_cons_succ, i64_w, i32_w]
        rfl
      refine take_ (i := 5) (N := some 30) (v := ?_) (a' := ?_) #[true, false, true, true, true, true, false, false, false, false, false, false, false, false, false] rfl rfl (take_ofW HT_.out HW_.out (by kernel_rfl)) (fun _ _ _ h => h) (Or.inl ⟨by rfl, ?_⟩) hHeld ?_ ?_
      rotate_left
      · rintro w' ⟨s0, s1, s2, s3, s4⟩
        go_simp
        with_reducible rfl
      rotate_left
      · simp only [Act.put, List.setIfInBounds_toArray, List.set_cons_zero, List.set_cons_succ, i64_w, i32_w]
        rfl
      refine join_ (σ := Nat × Option Addr × Nat × Option Addr × Nat × Option Addr × Nat) 2 #[true, true, true, true, true, true, true, true, true, true, true, true, true, false, false] (fun sg => [(26, .agg #[.int .i64 s, .slice sg.2.1 l.length sg.2.2.1]), (31, .agg #[.int .i64 n2, .slice sg.2.2.2.1 k.length sg.2.2.2.2.1]), (32, .agg #[.int .i64 s, .int .i64 n2, .slice sg.2.2.2.1 k.length sg.2.2.2.2.1]), (33, .tuple #[.agg #[.int .i64 n2, .slice sg.2.2.2.2.2.1 (mrg l k).length sg.2.2.2.2.2.2], .int .i64 0]), (24, .tuple #[.agg #[.int .i64 n2, .slice sg.2.2.2.2.2.1 (mrg l k).length sg.2.2.2.2.2.2], .int .i64 0]), (34, .agg #[.int .i64 n2, .slice sg.2.2.2.2.2.1 (mrg l k).length sg.2.2.2.2.2.2]), (35, .int .i64 0), (7, .pointer (some ⟨sg.1, 0, none⟩))]) (fun sg w' => (Below w5.heap.size w5 w' ∧ Zbox w' sg.1 ∧ w5.heap.size ≤ sg.1 ∧ kVn.R 48 w' w5.heap.size (fun k => k ≠ sg.1) (.slice sg.2.2.2.2.2.1 (mrg l k).length sg.2.2.2.2.2.2) (mrg l k))) ?_ ?_
      rotate_left
      · intro hCont
        refine two_ (i := 1) (j := 12) (Ni := some 26) (Nj := some 7) #[true, true, true, true, true, true, false, false, false, false, false, false, false, false, false] #[true, false, true, true, true, true, false, false, false, false, false, false, true, false, false] rfl rfl rfl rfl (two_of HT_.out (by kernel_rfl)) (by decide) (by decide) (fun K hK => ?_) (fun K hK => ?_)
        · skip
          refine goes_ Try.func10 (by kernel_rfl) rfl #[.agg #[.int .i64 s, .slice A l.length c]] (by rfl) rfl rfl (by simp only [List.map_toArray, List.map_cons, List.map_nil]; first | rfl | (refine congrArg List.toArray (congr (congrArg List.cons ?_) (congrArg (fun z => [z]) ?_)) <;> first | rfl | go_simp)) ?_
          with_reducible refine (copy_C l s A c _ (Kd.C_below C_l.out (bt (bt (bt N_w1.out N_w4.out) N_w5.out) (Below.refl w5.heap.size w5).drew)) hl Rb).mono ?_
          rintro e wq0 ⟨A1, c1, rfl, hc1, hC1, hb0⟩
          refine ⟨_, rfl, ?_⟩
          refine hK.out _ _ ⟨pw_cell_below hb0 (hHeld.1), pw_cell_below hb0 (hHeld.2.1), pw_cell_below hb0 (hHeld.2.2.1), pw_cell_below hb0 (hHeld.2.2.2.1), pw_cell_below hb0 (hHeld.2.2.2.2)⟩ (fun hHeld => ?_)
          clear hK K
          refine norm_ (a' := ?_) ?_ ?_
          rotate_left
          · show Act.put _ (some 26) _ = _
            simp only [Act.put, List.setIfInBounds_toArray, List.set_cons_zero, List.set_cons_succ, i64_w, i32_w]
            rfl
          refine two_ (i := 6) (j := 12) (Ni := some 31) (Nj := some 7) #[true, true, true, true, true, true, true, false, false, false, false, false, false, false, false] #[true, true, true, true, true, true, false, false, false, false, false, false, true, false, false] rfl rfl rfl rfl (two_of HT_.out (by kernel_rfl)) (by decide) (by decide) (fun K hK => ?_) (fun K hK => ?_)
          · skip
            refine goes_ Try.func10 (by kernel_rfl) rfl #[.agg #[.int .i64 n2, .slice B k.length d]] (by rfl) rfl rfl (by simp only [List.map_toArray, List.map_cons, List.map_nil]; first | rfl | (refine congrArg List.toArray (congr (congrArg List.cons ?_) (congrArg (fun z => [z]) ?_)) <;> first | rfl | go_simp)) ?_
            with_reducible refine (copy_C k n2 B d _ (Kd.C_below C_k.out (bt (bt (bt N_w1.out N_w4.out) N_w5.out) (bt (Below.refl w5.heap.size w5).drew hb0))) hm HQ).mono ?_
            rintro e wq1 ⟨A2, c2, rfl, hc2, hC2, hb1⟩
            refine ⟨_, rfl, ?_⟩
            refine hK.out _ _ ⟨pw_cell_below hb1 (hHeld.1), pw_cell_below hb1 (hHeld.2.1), pw_cell_below hb1 (hHeld.2.2.1), pw_cell_below hb1 (hHeld.2.2.2.1), pw_cell_below hb1 (hHeld.2.2.2.2)⟩ (fun hHeld => ?_)
            clear hK K
            refine norm_ (a' := ?_) ?_ ?_
            rotate_left
            · show Act.put _ (some 31) _ = _
              simp only [Act.put, List.setIfInBounds_toArray, List.set_cons_zero, List.set_cons_succ, i64_w, i32_w]
              rfl
            refine pure_ (i := 7) (N := some 32) (v := ?_) (a' := ?_) #[true, true, true, true, true, true, true, true, false, false, false, false, false, false, false] rfl rfl (any_of HT_.out (by kernel_rfl)) (fun _ _ _ h => h) (Or.inl ⟨by rfl, ?_⟩) ?_ ?_
            rotate_left
            · intro w'
              go_simp
              with_reducible rfl
            rotate_left
            · simp only [Act.put, List.setIfInBounds_toArray, List.set_cons_zero, List.set_cons_succ, i64_w, i32_w]
              rfl
            refine two_ (i := 8) (j := 12) (Ni := some 33) (Nj := some 7) #[true, true, true, true, true, true, true, true, true, false, false, false, false, false, false] #[true, true, true, true, true, true, true, true, false, false, false, false, true, false, false] rfl rfl rfl rfl (two_of HT_.out (by kernel_rfl)) (by decide) (by decide) (fun K hK => ?_) (fun K hK => ?_)
            · skip
              refine goes_ Try.func16 (by kernel_rfl) rfl #[.agg #[.int .i64 s, .slice A1 l.length c1], .agg #[.int .i64 s, .int .i64 n2, .slice A2 k.length c2]] (by rfl) rfl rfl (by simp only [List.map_toArray, List.map_cons, List.map_nil]; first | rfl | (refine congrArg List.toArray (congr (congrArg List.cons ?_) (congrArg (fun z => [z]) ?_)) <;> first | rfl | go_simp)) ?_
              with_reducible refine (apply_R l k (mrg l k) s n2 A1 A2 c1 c2 _ (Kd.C_below hC1 hb1) hc1 Rb (Kd.C_below hC2 (Below.refl _ _)) hc2 HQ h2 h3 la).mono ?_
              rintro e wq2 ⟨A_7, c_7, rfl, hcx, hRx, hb2⟩
              refine ⟨_, rfl, ?_⟩
              refine hK.out _ _ ⟨pw_cell_below hb2 (hHeld.1), pw_cell_below hb2 (hHeld.2.1), pw_cell_below hb2 (hHeld.2.2.1), pw_cell_below hb2 (hHeld.2.2.2.1), pw_cell_below hb2 (hHeld.2.2.2.2)⟩ (fun hHeld => ?_)
              clear hK K
              refine norm_ (a' := ?_) ?_ ?_
              rotate_left
              · show Act.put _ (some 33) _ = _
                simp only [Act.put, List.setIfInBounds_toArray, List.set_cons_zero, List.set_cons_succ, i64_w, i32_w]
                rfl
              refine pure_ (i := 9) (N := some 24) (v := ?_) (a' := ?_) #[true, true, true, true, true, true, true, true, true, true, false, false, false, false, false] rfl rfl (any_of HT_.out (by kernel_rfl)) (fun _ _ _ h => h) (Or.inl ⟨by rfl, ?_⟩) ?_ ?_
              rotate_left
              · intro w'
                go_simp
                with_reducible rfl
              rotate_left
              · simp only [Act.put, List.setIfInBounds_toArray, List.set_cons_zero, List.set_cons_succ, i64_w, i32_w]
                rfl
              refine pure_ (i := 10) (N := some 34) (v := ?_) (a' := ?_) #[true, true, true, true, true, true, true, true, true, true, true, false, false, false, false] rfl rfl (any_of HT_.out (by kernel_rfl)) (fun _ _ _ h => h) (Or.inl ⟨by rfl, ?_⟩) ?_ ?_
              rotate_left
              · intro w'
                go_simp
                with_reducible rfl
              rotate_left
              · simp only [Act.put, List.setIfInBounds_toArray, List.set_cons_zero, List.set_cons_succ, i64_w, i32_w]
                rfl
              refine pure_ (i := 11) (N := some 35) (v := ?_) (a' := ?_) #[true, true, true, true, true, true, true, true, true, true, true, true, false, false, false] rfl rfl (any_of HT_.out (by kernel_rfl)) (fun _ _ _ h => h) (Or.inl ⟨by rfl, ?_⟩) ?_ ?_
              rotate_left
              · intro w'
                go_simp
                with_reducible rfl
              rotate_left
              · simp only [Act.put, List.setIfInBounds_toArray, List.set_cons_zero, List.set_cons_succ, i64_w, i32_w]
                rfl
              refine one_ (i := 12) (N := some 7) #[true, true, true, true, true, true, true, true, true, true, true, true, true, false, false] rfl rfl (one_of HT_.out (by kernel_rfl)) (by decide) (fun K hK => ?_)
              refine value_ (w1 := ?_) (v := ?_) (by rfl) rfl ?_ ?_
              rotate_left 2
              · go_simp
                constructor
                · rfl
                · rfl
              refine hK.out _ _ ⟨pw_cell_below (below1 _ _) (hHeld.1), pw_cell_below (below1 _ _) (hHeld.2.1), pw_cell_below (below1 _ _) (hHeld.2.2.1), pw_cell_below (below1 _ _) (hHeld.2.2.2.1), pw_cell_below (below1 _ _) (hHeld.2.2.2.2)⟩ (fun hHeld => ?_)
              clear hK K
              refine norm_ (a' := ?_) ?_ ?_
              rotate_left
              · show Act.put _ (some 7) _ = _
                simp only [Act.put, List.setIfInBounds_toArray, List.set_cons_zero, List.set_cons_succ, i64_w, i32_w]
                rfl
              exact norm_ (by simp only [putAll, Act.put, List.setIfInBounds_toArray, List.set_cons_zero, List.set_cons_succ]) (hCont (wq2.heap.size, A1, c1, A2, c2, A_7, c_7) _ ⟨(bt (bt (bt (bt (Below.refl w5.heap.size w5).drew hb0) hb1) hb2) (below1 _ (.cells #[.int .i64 0, .slice none 0 0] 24))), zbox_new _, ((bt (bt (bt (Below.refl w5.heap.size w5).drew hb0) hb1) hb2)).size, r_new hRx (((bt (bt (Below.refl w5.heap.size w5).drew hb0) hb1)).size) _⟩)
            · skip
              refine value_ (w1 := ?_) (v := ?_) (by rfl) rfl ?_ ?_
              rotate_left 2
              · go_simp
                constructor
                · rfl
                · rfl
              refine hK.out _ _ ⟨pw_cell_below (below1 _ _) (hHeld.1), pw_cell_below (below1 _ _) (hHeld.2.1), pw_cell_below (below1 _ _) (hHeld.2.2.1), pw_cell_below (below1 _ _) (hHeld.2.2.2.1), pw_cell_below (below1 _ _) (hHeld.2.2.2.2)⟩ (fun hHeld => ?_)
              clear hK K
              refine norm_ (a' := ?_) ?_ ?_
              rotate_left
              · show Act.put _ (some 7) _ = _
                simp only [Act.put, List.setIfInBounds_toArray, List.set_cons_zero, List.set_cons_succ, i64_w, i32_w]
                rfl
              refine one_ (i := 8) (N := some 33) #[true, true, true, true, true, true, true, true, true, false, false, false, true, false, false] rfl rfl (one_of HT_.out (by kernel_rfl)) (by decide) (fun K hK => ?_)
              refine goes_ Try.func16 (by kernel_rfl) rfl #[.agg #[.int .i64 s, .slice A1 l.length c1], .agg #[.int .i64 s, .int .i64 n2, .slice A2 k.length c2]] (by rfl) rfl rfl (by simp only [List.map_toArray, List.map_cons, List.map_nil]; first | rfl | (refine congrArg List.toArray (congr (congrArg List.cons ?_) (congrArg (fun z => [z]) ?_)) <;> first | rfl | go_simp)) ?_
              with_reducible refine (apply_R l k (mrg l k) s n2 A1 A2 c1 c2 _ (Kd.C_below hC1 (bt hb1 (below1 _ (.cells #[.int .i64 0, .slice none 0 0] 24)))) hc1 Rb (Kd.C_below hC2 (below1 _ (.cells #[.int .i64 0, .slice none 0 0] 24))) hc2 HQ h2 h3 la).mono ?_
              rintro e wq2 ⟨A_7, c_7, rfl, hcx, hRx, hb2⟩
              refine ⟨_, rfl, ?_⟩
              refine hK.out _ _ ⟨pw_cell_below hb2 (hHeld.1), pw_cell_below hb2 (hHeld.2.1), pw_cell_below hb2 (hHeld.2.2.1), pw_cell_below hb2 (hHeld.2.2.2.1), pw_cell_below hb2 (hHeld.2.2.2.2)⟩ (fun hHeld => ?_)
              clear hK K
              refine norm_ (a' := ?_) ?_ ?_
              rotate_left
              · show Act.put _ (some 33) _ = _
                simp only [Act.put, List.setIfInBounds_toArray, List.set_cons_zero, List.set_cons_succ, i64_w, i32_w]
                rfl
              refine pure_ (i := 9) (N := some 24) (v := ?_) (a' := ?_) #[true, true, true, true, true, true, true, true, true, true, false, false, true, false, false] rfl rfl (any_of HT_.out (by kernel_rfl)) (fun _ _ _ h => h) (Or.inl ⟨by rfl, ?_⟩) ?_ ?_
              rotate_left
              · intro w'
                go_simp
                with_reducible rfl
              rotate_left
              · simp only [Act.put, List.setIfInBounds_toArray, List.set_cons_zero, List.set_cons_succ, i64_w, i32_w]
                rfl
              refine pure_ (i := 10) (N := some 34) (v := ?_) (a' := ?_) #[true, true, true, true, true, true, true, true, true, true, true, false, true, false, false] rfl rfl (any_of HT_.out (by kernel_rfl)) (fun _ _ _ h => h) (Or.inl ⟨by rfl, ?_⟩) ?_ ?_
              rotate_left
              · intro w'
                go_simp
                with_reducible rfl
              rotate_left
              · simp only [Act.put, List.setIfInBounds_toArray, List.set_cons_zero, List.set_cons_succ, i64_w, i32_w]
                rfl
              refine pure_ (i := 11) (N := some 35) (v := ?_) (a' := ?_) #[true, true, true, true, true, true, true, true, true, true, true, true, true, false, false] rfl rfl (any_of HT_.out (by kernel_rfl)) (fun _ _ _ h => h) (Or.inl ⟨by rfl, ?_⟩) ?_ ?_
              rotate_left
              · intro w'
                go_simp
                with_reducible rfl
              rotate_left
              · simp only [Act.put, List.setIfInBounds_toArray, List.set_cons_zero, List.set_cons_succ, i64_w, i32_w]
                rfl
              exact norm_ (by simp only [putAll, Act.put, List.setIfInBounds_toArray, List.set_cons_zero, List.set_cons_succ]) (hCont (wq1.heap.size, A1, c1, A2, c2, A_7, c_7) _ ⟨(bt (bt (bt (bt (Below.refl w5.heap.size w5).drew hb0) hb1) (below1 _ (.cells #[.int .i64 0, .slice none 0 0] 24))) hb2), (zbox_new _).below hb2, ((bt (bt (Below.refl w5.heap.size w5).drew hb0) hb1)).size, r_low hRx (((bt (bt (bt (Below.refl w5.heap.size w5).drew hb0) hb1) (below1 _ (.cells #[.int .i64 0, .slice none 0 0] 24)))).size) (by rw [alloc_size]; exact Nat.lt_succ_self _)⟩)
          · skip
            refine value_ (w1 := ?_) (v := ?_) (by rfl) rfl ?_ ?_
            rotate_left 2
            · go_simp
              constructor
              · rfl
              · rfl
            refine hK.out _ _ ⟨pw_cell_below (below1 _ _) (hHeld.1), pw_cell_below (below1 _ _) (hHeld.2.1), pw_cell_below (below1 _ _) (hHeld.2.2.1), pw_cell_below (below1 _ _) (hHeld.2.2.2.1), pw_cell_below (below1 _ _) (hHeld.2.2.2.2)⟩ (fun hHeld => ?_)
            clear hK K
            refine norm_ (a' := ?_) ?_ ?_
            rotate_left
            · show Act.put _ (some 7) _ = _
              simp only [Act.put, List.setIfInBounds_toArray, List.set_cons_zero, List.set_cons_succ, i64_w, i32_w]
              rfl
            refine one_ (i := 6) (N := some 31) #[true, true, true, true, true, true, true, false, false, false, false, false, true, false, false] rfl rfl (one_of HT_.out (by kernel_rfl)) (by decide) (fun K hK => ?_)
            refine goes_ Try.func10 (by kernel_rfl) rfl #[.agg #[.int .i64 n2, .slice B k.length d]] (by rfl) rfl rfl (by simp only [List.map_toArray, List.map_cons, List.map_nil]; first | rfl | (refine congrArg List.toArray (congr (congrArg List.cons ?_) (congrArg (fun z => [z]) ?_)) <;> first | rfl | go_simp)) ?_
            with_reducible refine (copy_C k n2 B d _ (Kd.C_below C_k.out (bt (bt (bt N_w1.out N_w4.out) N_w5.out) (bt (bt (Below.refl w5.heap.size w5).drew hb0) (below1 _ (.cells #[.int .i64 0, .slice none 0 0] 24))))) hm HQ).mono ?_
            rintro e wq1 ⟨A2, c2, rfl, hc2, hC2, hb1⟩
            refine ⟨_, rfl, ?_⟩
            refine hK.out _ _ ⟨pw_cell_below hb1 (hHeld.1), pw_cell_below hb1 (hHeld.2.1), pw_cell_below hb1 (hHeld.2.2.1), pw_cell_below hb1 (hHeld.2.2.2.1), pw_cell_below hb1 (hHeld.2.2.2.2)⟩ (fun hHeld => ?_)
            clear hK K
            refine norm_ (a' := ?_) ?_ ?_
            rotate_left
            · show Act.put _ (some 31) _ = _
              simp only [Act.put, List.setIfInBounds_toArray, List.set_cons_zero, List.set_cons_succ, i64_w, i32_w]
              rfl
            refine pure_ (i := 7) (N := some 32) (v := ?_) (a' := ?_) #[true, true, true, true, true, true, true, true, false, false, false, false, true, false, false] rfl rfl (any_of HT_.out (by kernel_rfl)) (fun _ _ _ h => h) (Or.inl ⟨by rfl, ?_⟩) ?_ ?_
            rotate_left
            · intro w'
              go_simp
              with_reducible rfl
            rotate_left
            · simp only [Act.put, List.setIfInBounds_toArray, List.set_cons_zero, List.set_cons_succ, i64_w, i32_w]
              rfl
            refine one_ (i := 8) (N := some 33) #[true, true, true, true, true, true, true, true, true, false, false, false, true, false, false] rfl rfl (one_of HT_.out (by kernel_rfl)) (by decide) (fun K hK => ?_)
            refine goes_ Try.func16 (by kernel_rfl) rfl #[.agg #[.int .i64 s, .slice A1 l.length c1], .agg #[.int .i64 s, .int .i64 n2, .slice A2 k.length c2]] (by rfl) rfl rfl (by simp only [List.map_toArray, List.map_cons, List.map_nil]; first | rfl | (refine congrArg List.toArray (congr (congrArg List.cons ?_) (congrArg (fun z => [z]) ?_)) <;> first | rfl | go_simp)) ?_
            with_reducible refine (apply_R l k (mrg l k) s n2 A1 A2 c1 c2 _ (Kd.C_below hC1 (bt (below1 _ (.cells #[.int .i64 0, .slice none 0 0] 24)) hb1)) hc1 Rb (Kd.C_below hC2 (Below.refl _ _)) hc2 HQ h2 h3 la).mono ?_
            rintro e wq2 ⟨A_7, c_7, rfl, hcx, hRx, hb2⟩
            refine ⟨_, rfl, ?_⟩
            refine hK.out _ _ ⟨pw_cell_below hb2 (hHeld.1), pw_cell_below hb2 (hHeld.2.1), pw_cell_below hb2 (hHeld.2.2.1), pw_cell_below hb2 (hHeld.2.2.2.1), pw_cell_below hb2 (hHeld.2.2.2.2)⟩ (fun hHeld => ?_)
            clear hK K
            refine norm_ (a' := ?_) ?_ ?_
            rotate_left
            · show Act.put _ (some 33) _ = _
              simp only [Act.put, List.setIfInBounds_toArray, List.set_cons_zero, List.set_cons_succ, i64_w, i32_w]
              rfl
            refine pure_ (i := 9) (N := some 24) (v := ?_) (a' := ?_) #[true, true, true, true, true, true, true, true, true, true, false, false, true, false, false] rfl rfl (any_of HT_.out (by kernel_rfl)) (fun _ _ _ h => h) (Or.inl ⟨by rfl, ?_⟩) ?_ ?_
            rotate_left
            · intro w'
              go_simp
              with_reducible rfl
            rotate_left
            · simp only [Act.put, List.setIfInBounds_toArray, List.set_cons_zero, List.set_cons_succ, i64_w, i32_w]
              rfl
            refine pure_ (i := 10) (N := some 34) (v := ?_) (a' := ?_) #[true, true, true, true, true, true, true, true, true, true, true, false, true, false, false] rfl rfl (any_of HT_.out (by kernel_rfl)) (fun _ _ _ h => h) (Or.inl ⟨by rfl, ?_⟩) ?_ ?_
            rotate_left
            · intro w'
              go_simp
              with_reducible rfl
            rotate_left
            · simp only [Act.put, List.setIfInBounds_toArray, List.set_cons_zero, List.set_cons_succ, i64_w, i32_w]
              rfl
            refine pure_ (i := 11) (N := some 35) (v := ?_) (a' := ?_) #[true, true, true, true, true, true, true, true, true, true, true, true, true, false, false] rfl rfl (any_of HT_.out (by kernel_rfl)) (fun _ _ _ h => h) (Or.inl ⟨by rfl, ?_⟩) ?_ ?_
            rotate_left
            · intro w'
              go_simp
              with_reducible rfl
            rotate_left
            · simp only [Act.put, List.setIfInBounds_toArray, List.set_cons_zero, List.set_cons_succ, i64_w, i32_w]
              rfl
            exact norm_ (by simp only [putAll, Act.put, List.setIfInBounds_toArray, List.set_cons_zero, List.set_cons_succ]) (hCont (wq0.heap.size, A1, c1, A2, c2, A_7, c_7) _ ⟨(bt (bt (bt (bt (Below.refl w5.heap.size w5).drew hb0) (below1 _ (.cells #[.int .i64 0, .slice none 0 0] 24))) hb1) hb2), ((zbox_new _).below hb1).below hb2, ((bt (Below.refl w5.heap.size w5).drew hb0)).size, r_low hRx (((bt (bt (bt (Below.refl w5.heap.size w5).drew hb0) (below1 _ (.cells #[.int .i64 0, .slice none 0 0] 24))) hb1)).size) (Zbox.lt ((zbox_new _).below hb1))⟩)
        · skip
          refine value_ (w1 := ?_) (v := ?_) (by rfl) rfl ?_ ?_
          rotate_left 2
          · go_simp
            constructor
            · rfl
            · rfl
          refine hK.out _ _ ⟨pw_cell_below (below1 _ _) (hHeld.1), pw_cell_below (below1 _ _) (hHeld.2.1), pw_cell_below (below1 _ _) (hHeld.2.2.1), pw_cell_below (below1 _ _) (hHeld.2.2.2.1), pw_cell_below (below1 _ _) (hHeld.2.2.2.2)⟩ (fun hHeld => ?_)
          clear hK K
          refine norm_ (a' := ?_) ?_ ?_
          rotate_left
          · show Act.put _ (some 7) _ = _
            simp only [Act.put, List.setIfInBounds_toArray, List.set_cons_zero, List.set_cons_succ, i64_w, i32_w]
            rfl
          refine one_ (i := 1) (N := some 26) #[true, true, true, true, true, true, false, false, false, false, false, false, true, false, false] rfl rfl (one_of HT_.out (by kernel_rfl)) (by decide) (fun K hK => ?_)
          refine goes_ Try.func10 (by kernel_rfl) rfl #[.agg #[.int .i64 s, .slice A l.length c]] (by rfl) rfl rfl (by simp only [List.map_toArray, List.map_cons, List.map_nil]; first | rfl | (refine congrArg List.toArray (congr (congrArg List.cons ?_) (congrArg (fun z => [z]) ?_)) <;> first | rfl | go_simp)) ?_
          with_reducible refine (copy_C l s A c _ (Kd.C_below C_l.out (bt (bt (bt N_w1.out N_w4.out) N_w5.out) (below1 w5 (.cells #[.int .i64 0, .slice none 0 0] 24)).drew)) hl Rb).mono ?_
          rintro e wq0 ⟨A1, c1, rfl, hc1, hC1, hb0⟩
          refine ⟨_, rfl, ?_⟩
          refine hK.out _ _ ⟨pw_cell_below hb0 (hHeld.1), pw_cell_below hb0 (hHeld.2.1), pw_cell_below hb0 (hHeld.2.2.1), pw_cell_below hb0 (hHeld.2.2.2.1), pw_cell_below hb0 (hHeld.2.2.2.2)⟩ (fun hHeld => ?_)
          clear hK K
          refine norm_ (a' := ?_) ?_ ?_
          rotate_left
          · show Act.put _ (some 26) _ = _
            simp only [Act.put, List.setIfInBounds_toArray, List.set_cons_zero, List.set_cons_succ, i64_w, i32_w]
            rfl
          refine one_ (i := 6) (N := some 31) #[true, true, true, true, true, true, true, false, false, false, false, false, true, false, false] rfl rfl (one_of HT_.out (by kernel_rfl)) (by decide) (fun K hK => ?_)
          refine goes_ Try.func10 (by kernel_rfl) rfl #[.agg #[.int .i64 n2, .slice B k.length d]] (by rfl) rfl rfl (by simp only [List.map_toArray, List.map_cons, List.map_nil]; first | rfl | (refine congrArg List.toArray (congr (congrArg List.cons ?_) (congrArg (fun z => [z]) ?_)) <;> first | rfl | go_simp)) ?_
          with_reducible refine (copy_C k n2 B d _ (Kd.C_below C_k.out (bt (bt (bt N_w1.out N_w4.out) N_w5.out) (bt (below1 w5 (.cells #[.int .i64 0, .slice none 0 0] 24)).drew hb0))) hm HQ).mono ?_
          rintro e wq1 ⟨A2, c2, rfl, hc2, hC2, hb1⟩
          refine ⟨_, rfl, ?_⟩
          refine hK.out _ _ ⟨pw_cell_below hb1 (hHeld.1), pw_cell_below hb1 (hHeld.2.1), pw_cell_below hb1 (hHeld.2.2.1), pw_cell_below hb1 (hHeld.2.2.2.1), pw_cell_below hb1 (hHeld.2.2.2.2)⟩ (fun hHeld => ?_)
          clear hK K
          refine norm_ (a' := ?_) ?_ ?_
          rotate_left
          · show Act.put _ (some 31) _ = _
            simp only [Act.put, List.setIfInBounds_toArray, List.set_cons_zero, List.set_cons_succ, i64_w, i32_w]
            rfl
          refine pure_ (i := 7) (N := some 32) (v := ?_) (a' := ?_) #[true, true, true, true, true, true, true, true, false, false, false, false, true, false, false] rfl rfl (any_of HT_.out (by kernel_rfl)) (fun _ _ _ h => h) (Or.inl ⟨by rfl, ?_⟩) ?_ ?_
          rotate_left
          · intro w'
            go_simp
            with_reducible rfl
          rotate_left
          · simp only [Act.put, List.setIfInBounds_toArray, List.set_cons_zero, List.set_cons_succ, i64_w, i32_w]
            rfl
          refine one_ (i := 8) (N := some 33) #[true, true, true, true, true, true, true, true, true, false, false, false, true, false, false] rfl rfl (one_of HT_.out (by kernel_rfl)) (by decide) (fun K hK => ?_)
          refine goes_ Try.func16 (by kernel_rfl) rfl #[.agg #[.int .i64 s, .slice A1 l.length c1], .agg #[.int .i64 s, .int .i64 n2, .slice A2 k.length c2]] (by rfl) rfl rfl (by simp only [List.map_toArray, List.map_cons, List.map_nil]; first | rfl | (refine congrArg List.toArray (congr (congrArg List.cons ?_) (congrArg (fun z => [z]) ?_)) <;> first | rfl | go_simp)) ?_
          with_reducible refine (apply_R l k (mrg l k) s n2 A1 A2 c1 c2 _ (Kd.C_below hC1 hb1) hc1 Rb (Kd.C_below hC2 (Below.refl _ _)) hc2 HQ h2 h3 la).mono ?_
          rintro e wq2 ⟨A_7, c_7, rfl, hcx, hRx, hb2⟩
          refine ⟨_, rfl, ?_⟩
          refine hK.out _ _ ⟨pw_cell_below hb2 (hHeld.1), pw_cell_below hb2 (hHeld.2.1), pw_cell_below hb2 (hHeld.2.2.1), pw_cell_below hb2 (hHeld.2.2.2.1), pw_cell_below hb2 (hHeld.2.2.2.2)⟩ (fun hHeld => ?_)
          clear hK K
          refine norm_ (a' := ?_) ?_ ?_
          rotate_left
          · show Act.put _ (some 33) _ = _
            simp only [Act.put, List.setIfInBounds_toArray, List.set_cons_zero, List.set_cons_succ, i64_w, i32_w]
            rfl
          refine pure_ (i := 9) (N := some 24) (v := ?_) (a' := ?_) #[true, true, true, true, true, true, true, true, true, true, false, false, true, false, false] rfl rfl (any_of HT_.out (by kernel_rfl)) (fun _ _ _ h => h) (Or.inl ⟨by rfl, ?_⟩) ?_ ?_
          rotate_left
          · intro w'
            go_simp
            with_reducible rfl
          rotate_left
          · simp only [Act.put, List.setIfInBounds_toArray, List.set_cons_zero, List.set_cons_succ, i64_w, i32_w]
            rfl
          refine pure_ (i := 10) (N := some 34) (v := ?_) (a' := ?_) #[true, true, true, true, true, true, true, true, true, true, true, false, true, false, false] rfl rfl (any_of HT_.out (by kernel_rfl)) (fun _ _ _ h => h) (Or.inl ⟨by rfl, ?_⟩) ?_ ?_
          rotate_left
          · intro w'
            go_simp
            with_reducible rfl
          rotate_left
          · simp only [Act.put, List.setIfInBounds_toArray, List.set_cons_zero, List.set_cons_succ, i64_w, i32_w]
            rfl
          refine pure_ (i := 11) (N := some 35) (v := ?_) (a' := ?_) #[true, true, true, true, true, true, true, true, true, true, true, true, true, false, false] rfl rfl (any_of HT_.out (by kernel_rfl)) (fun _ _ _ h => h) (Or.inl ⟨by rfl, ?_⟩) ?_ ?_
          rotate_left
          · intro w'
            go_simp
            with_reducible rfl
          rotate_left
          · simp only [Act.put, List.setIfInBounds_toArray, List.set_cons_zero, List.set_cons_succ, i64_w, i32_w]
            rfl
          exact norm_ (by simp only [putAll, Act.put, List.setIfInBounds_toArray, List.set_cons_zero, List.set_cons_succ]) (hCont (w5.heap.size, A1, c1, A2, c2, A_7, c_7) _ ⟨(bt (bt (bt (below1 w5 (.cells #[.int .i64 0, .slice none 0 0] 24)).drew hb0) hb1) hb2), ((((zbox_new w5).below (Below.refl _ _).drew).below hb0).below hb1).below hb2, Nat.le_refl _, r_low hRx (((bt (bt (below1 w5 (.cells #[.int .i64 0, .slice none 0 0] 24)).drew hb0) hb1)).size) (Zbox.lt ((((zbox_new w5).below (Below.refl _ _).drew).below hb0).below hb1))⟩)
      rintro ⟨g7, A1, c1, A2, c2, A_7, c_7⟩ wx7 ⟨hF1, hF2, hF3, hF4⟩
      have k0 := hF2.c0
      have k1 := hF2.c1
      have kf := hF2.fr
      refine norm_ (a' := ?_) ?_ ?_
      rotate_left
      · simp only [putAll, Act.put, List.setIfInBounds_toArray, List.set_cons_zero, List.set_cons_succ]
        rfl
      refine last_ (i := 13) (N := none) #[true, true, true, true, true, true, true, true, true, true, true, true, true, true, false] rfl rfl (one_of HT_.out (by kernel_rfl)) (by decide) (fun K hK => ?_)
      refine skip_ (w1 := ?_) (by rfl) rfl ?_ ?_
      rotate_left
      · go_simp
        rfl
      refine hK.out _ _ ?_
      clear hK K
      refine pure_ (i := 14) (N := some 8) (v := ?_) (a' := ?_) #[true, true, true, true, true, true, true, true, true, true, true, true, true, true, true] rfl rfl (any_of HT_.out (by kernel_rfl)) (fun _ _ _ h => h) (Or.inl ⟨by rfl, ?_⟩) ?_ ?_
      rotate_left
      · intro w'
        go_simp
        with_reducible rfl
      rotate_left
      · simp only [Act.put, List.setIfInBounds_toArray, List.set_cons_zero, List.set_cons_succ, i64_w, i32_w]
        rfl
      refine done_ (done_of HT_.out (by kernel_rfl)) ?_
      obtain ⟨hs1, hs2, hs3, hs4, hs5⟩ := stored n2 hF1 hF2 hF3 hF4
      generalize ((wx7.setCell ⟨g7, 0, none⟩ (.int .i64 n2)).setCell ⟨g7, 1, none⟩ (.slice A_7 (mrg l k).length c_7)) = w8 at *
      clear hF1 hF2 hF3 hF4 k0 k1 kf
      have N_w8 := Lib.hid hs1
      have C_x := Lib.hid hs5
      have hl_x := hs4
      have B_x_0 := Lib.hid hs2
      have B_x_1 := Lib.hid hs3
      clear hs1 hs2 hs3 hs4 hs5
      have V_v_0 : World.cell? w8 ⟨w.heap.size, 0, none⟩ = some (.int .i64 s) := pw_cell_below (bt (bt N_w4.out N_w5.out) N_w8.out) B_v_0.out
      have V_v_1 : World.cell? w8 ⟨w.heap.size, 1, none⟩ = some (.slice A l.length c) := pw_cell_below (bt (bt N_w4.out N_w5.out) N_w8.out) B_v_1.out
      have V_d_0 : World.cell? w8 ⟨w.heap.size + 1, 0, none⟩ = some (.int .i64 s) := pw_cell_below (bt (bt N_w4.out N_w5.out) N_w8.out) B_d_0.out
      have V_d_1 : World.cell? w8 ⟨w.heap.size + 1, 1, none⟩ = some (.int .i64 n2) := pw_cell_below (bt (bt N_w4.out N_w5.out) N_w8.out) B_d_1.out
      have V_d_2 : World.cell? w8 ⟨w.heap.size + 1, 2, none⟩ = some (.slice B k.length d) := pw_cell_below (bt (bt N_w4.out N_w5.out) N_w8.out) B_d_2.out
      go_upto_region 12 with fail
      clear V_v_0 V_v_1 V_d_0 V_d_1 V_d_2
      refine start_ (n := 7) (S := fun w' => w'.cell? ⟨w.heap.size, 0, none⟩ = some (.int .i64 s) ∧ w'.cell? ⟨w.heap.size, 1, none⟩ = some (.slice A l.length c) ∧ w'.cell? ⟨w.heap.size + 1, 0, none⟩ = some (.int .i64 s) ∧ w'.cell? ⟨w.heap.size + 1, 1, none⟩ = some (.int .i64 n2) ∧ w'.cell? ⟨w.heap.size + 1, 2, none⟩ = some (.slice B k.length d)) (ds := []) #[false, false, false, false, false, false, false] (by kernel_rfl) rfl rfl ⟨pw_cell_below (bt (bt (bt N_w4.out N_w5.out) N_w8.out) (Below.refl _ _).drew) B_v_0.out, pw_cell_below (bt (bt (bt N_w4.out N_w5.out) N_w8.out) (Below.refl _ _).drew) B_v_1.out, pw_cell_below (bt (bt (bt N_w4.out N_w5.out) N_w8.out) (Below.refl _ _).drew) B_d_0.out, pw_cell_below (bt (bt (bt N_w4.out N_w5.out) N_w8.out) (Below.refl _ _).drew) B_d_1.out, pw_cell_below (bt (bt (bt N_w4.out N_w5.out) N_w8.out) (Below.refl _ _).drew) B_d_2.out⟩ (fun hHeld => ?_)
      refine with_tabW fL.tab12 fL.bits12 (fun HT_ HW_ => ?_)
      refine pure_ (i := 2) (N := some 61) (v := ?_) (a' := ?_) #[false, false, true, false, false, false, false] rfl rfl (any_of HT_.out (by kernel_rfl)) (fun _ _ _ h => h) (Or.inl ⟨by rfl, ?_⟩) ?_ ?_
      rotate_left
      · intro w'
        go_simp
        with_reducible rfl
      rotate_left
      · simp only [Act.put, List.setIfInBounds_toArray, List.set_cons_zero, List.set_cons_succ, i64_w, i32_w]
        rfl
      refine take_ (i := 0) (N := some 59) (v := ?_) (a' := ?_) #[true, false, true, false, false, false, false] rfl rfl (take_ofW HT_.out HW_.out (by kernel_rfl)) (fun _ _ _ h => h) (Or.inl ⟨by rfl, ?_⟩) hHeld ?_ ?_
      rotate_left
      · rintro w' ⟨s0, s1, s2, s3, s4⟩
        go_simp
        with_reducible rfl
      rotate_left
      · simp only [Act.put, List.setIfInBounds_toArray, List.set_cons_zero, List.set_cons_succ, i64_w, i32_w]
        rfl
      refine take_ (i := 3) (N := some 62) (v := ?_) (a' := ?_) #[true, false, true, true, false, false, false] rfl rfl (take_ofW HT_.out HW_.out (by kernel_rfl)) (fun _ _ _ h => h) (Or.inl ⟨by rfl, ?_⟩) hHeld ?_ ?_
      rotate_left
      · rintro w' ⟨s0, s1, s2, s3, s4⟩
        go_simp
        with_reducible rfl
      rotate_left
      · simp only [Act.put, List.setIfInBounds_toArray, List.set_cons_zero, List.set_cons_succ, i64_w, i32_w]
        rfl
      refine one_ (i := 1) (N := some 60) #[true, true, true, true, false, false, false] rfl rfl (one_of HT_.out (by kernel_rfl)) (by decide) (fun K hK => ?_)
      refine goes_ Try.func21 (by kernel_rfl) rfl #[.agg #[.int .i64 s, .slice A l.length c]] (by rfl) rfl rfl (by simp only [List.map_toArray, List.map_cons, List.map_nil]; first | rfl | (refine congrArg List.toArray (congr (congrArg List.cons ?_) (congrArg (fun z => [z]) ?_)) <;> first | rfl | go_simp)) ?_
      with_reducible refine (refBytes_any l s A c _ (Kd.C_below C_l.out (bt (bt (bt (bt N_w1.out N_w4.out) N_w5.out) N_w8.out) (Below.refl w8.heap.size w8).drew)) hl Rb.fits).mono ?_
      rintro e wy0 ⟨rfl, hy0⟩
      refine ⟨_, rfl, ?_⟩
      refine hK.out _ _ ⟨pw_cell_below hy0 (hHeld.1), pw_cell_below hy0 (hHeld.2.1), pw_cell_below hy0 (hHeld.2.2.1), pw_cell_below hy0 (hHeld.2.2.2.1), pw_cell_below hy0 (hHeld.2.2.2.2)⟩ (fun hHeld => ?_)
      clear hK K
      refine norm_ (a' := ?_) ?_ ?_
      rotate_left
      · show Act.put _ (some 60) _ = _
        simp only [Act.put, List.setIfInBounds_toArray, List.set_cons_zero, List.set_cons_succ, i64_w, i32_w]
        rfl
      refine one_ (i := 4) (N := some 63) #[true, true, true, true, true, false, false] rfl rfl (one_of HT_.out (by kernel_rfl)) (by decide) (fun K hK => ?_)
      refine goes_ Try.func21 (by kernel_rfl) rfl #[.agg #[.int .i64 n2, .slice B k.length d]] (by rfl) rfl rfl (by simp only [List.map_toArray, List.map_cons, List.map_nil]; first | rfl | (refine congrArg List.toArray (congr (congrArg List.cons ?_) (congrArg (fun z => [z]) ?_)) <;> first | rfl | go_simp)) ?_
      with_reducible refine (refBytes_any k n2 B d _ (Kd.C_below C_k.out (bt (bt (bt (bt N_w1.out N_w4.out) N_w5.out) N_w8.out) (bt (Below.refl w8.heap.size w8).drew hy0))) hm HQ.fits).mono ?_
      rintro e wy1 ⟨rfl, hy1⟩
      refine ⟨_, rfl, ?_⟩
      refine hK.out _ _ ⟨pw_cell_below hy1 (hHeld.1), pw_cell_below hy1 (hHeld.2.1), pw_cell_below hy1 (hHeld.2.2.1), pw_cell_below hy1 (hHeld.2.2.2.1), pw_cell_below hy1 (hHeld.2.2.2.2)⟩ (fun hHeld => ?_)
      clear hK K
      refine norm_ (a' := ?_) ?_ ?_
      rotate_left
      · show Act.put _ (some 63) _ = _
        simp only [Act.put, List.setIfInBounds_toArray, List.set_cons_zero, List.set_cons_succ, i64_w, i32_w]
        rfl
      refine pure_ (i := 5) (N := some 64) (v := ?_) (a' := ?_) #[true, true, true, true, true, true, false] rfl rfl (any_of HT_.out (by kernel_rfl)) (fun _ _ _ h => h) (Or.inl ⟨by rfl, ?_⟩) ?_ ?_
      rotate_left
      · intro w'
        go_simp
        with_reducible rfl
      rotate_left
      · simp only [Act.put, List.setIfInBounds_toArray, List.set_cons_zero, List.set_cons_succ, i64_w, i32_w]
        rfl
      refine pure_ (i := 6) (N := some 65) (v := ?_) (a' := ?_) #[true, true, true, true, true, true, true] rfl rfl (any_of HT_.out (by kernel_rfl)) (fun _ _ _ h => h) (Or.inl ⟨by rfl, ?_⟩) ?_ ?_
      rotate_left
      · intro w'
        go_simp
        with_reducible rfl
      rotate_left
      · simp only [Act.put, List.setIfInBounds_toArray, List.set_cons_zero, List.set_cons_succ, i64_w, i32_w]
        rfl
      refine done_ (done_of HT_.out (by kernel_rfl)) ?_
      have N_wy1 := Lib.hid (bt (bt (Below.refl w8.heap.size w8).drew hy0) hy1)
      clear hy0 hy1 hHeld
      have V_x_0 : World.cell? wy1 ⟨g7, 0, none⟩ = some (.int .i64 n2) := pw_cell_below N_wy1.out B_x_0.out
      have V_x_1 : World.cell? wy1 ⟨g7, 1, none⟩ = some (.slice A_7 (mrg l k).length c_7) := pw_cell_below N_wy1.out B_x_1.out
      go_upto_region 16 with (first
        | (go_at_call 12; with_reducible refine (right_true (mrg l k) n2 A_7 c_7 _ (Kd.C_below C_x.out N_wy1.out) hl_x RX.fits lr).mono ?_; rintro e wz ⟨rfl, hb⟩; clear V_x_0 V_x_1; have N_wz := Lib.hid (bt (x := wy1) (Below.refl _ _) hb); have V_v_0 : World.cell? wz ⟨w.heap.size, 0, none⟩ = some (.int .i64 s) := pw_cell_below (bt (bt (bt (bt N_w4.out N_w5.out) N_w8.out) N_wy1.out) N_wz.out) B_v_0.out; have V_v_1 : World.cell? wz ⟨w.heap.size, 1, none⟩ = some (.slice A l.length c) := pw_cell_below (bt (bt (bt (bt N_w4.out N_w5.out) N_w8.out) N_wy1.out) N_wz.out) B_v_1.out; have V_d_0 : World.cell? wz ⟨w.heap.size + 1, 0, none⟩ = some (.int .i64 s) := pw_cell_below (bt (bt (bt (bt N_w4.out N_w5.out) N_w8.out) N_wy1.out) N_wz.out) B_d_0.out; have V_d_1 : World.cell? wz ⟨w.heap.size + 1, 1, none⟩ = some (.int .i64 n2) := pw_cell_below (bt (bt (bt (bt N_w4.out N_w5.out) N_w8.out) N_wy1.out) N_wz.out) B_d_1.out; have V_d_2 : World.cell? wz ⟨w.heap.size + 1, 2, none⟩ = some (.slice B k.length d) := pw_cell_below (bt (bt (bt (bt N_w4.out N_w5.out) N_w8.out) N_wy1.out) N_wz.out) B_d_2.out; have V_x_0 : World.cell? wz ⟨g7, 0, none⟩ = some (.int .i64 n2) := pw_cell_below (bt N_wy1.out N_wz.out) B_x_0.out; have V_x_1 : World.cell? wz ⟨g7, 1, none⟩ = some (.slice A_7 (mrg l k).length c_7) := pw_cell_below (bt N_wy1.out N_wz.out) B_x_1.out; clear hb)
        )
      clear V_v_0 V_v_1 V_d_0 V_d_1 V_d_2 V_x_0 V_x_1
      refine start_ (n := 13) (S := fun w' => w'.cell? ⟨w.heap.size, 0, none⟩ = some (.int .i64 s) ∧ w'.cell? ⟨w.heap.size, 1, none⟩ = some (.slice A l.length c) ∧ w'.cell? ⟨w.heap.size + 1, 0, none⟩ = some (.int .i64 s) ∧ w'.cell? ⟨w.heap.size + 1, 1, none⟩ = some (.int .i64 n2) ∧ w'.cell? ⟨w.heap.size + 1, 2, none⟩ = some (.slice B k.length d) ∧ w'.cell? ⟨g7, 0, none⟩ = some (.int .i64 n2) ∧ w'.cell? ⟨g7, 1, none⟩ = some (.slice A_7 (mrg l k).length c_7)) (ds := []) #[false, false, false, false, false, false, false, false, false, false, false, false, false] (by kernel_rfl) rfl rfl ⟨pw_cell_below (bt (bt (bt (bt (bt N_w4.out N_w5.out) N_w8.out) N_wy1.out) N_wz.out) (Below.refl _ _).drew) B_v_0.out, pw_cell_below (bt (bt (bt (bt (bt N_w4.out N_w5.out) N_w8.out) N_wy1.out) N_wz.out) (Below.refl _ _).drew) B_v_1.out, pw_cell_below (bt (bt (bt (bt (bt N_w4.out N_w5.out) N_w8.out) N_wy1.out) N_wz.out) (Below.refl _ _).drew) B_d_0.out, pw_cell_below (bt (bt (bt (bt (bt N_w4.out N_w5.out) N_w8.out) N_wy1.out) N_wz.out) (Below.refl _ _).drew) B_d_1.out, pw_cell_below (bt (bt (bt (bt (bt N_w4.out N_w5.out) N_w8.out) N_wy1.out) N_wz.out) (Below.refl _ _).drew) B_d_2.out, pw_cell_below (bt (bt N_wy1.out N_wz.out) (Below.refl _ _).drew) B_x_0.out, pw_cell_below (bt (bt N_wy1.out N_wz.out) (Below.refl _ _).drew) B_x_1.out⟩ (fun hHeld => ?_)
      refine with_tabW fL.tab16 fL.bits16 (fun HT_ HW_ => ?_)
      refine pure_ (i := 1) (N := some 98) (v := ?_) (a' := ?_) #[false, true, false, false, false, false, false, false, false, false, false, false, false] rfl rfl (any_of HT_.out (by kernel_rfl)) (fun _ _ _ h => h) (Or.inl ⟨by rfl, ?_⟩) ?_ ?_
      rotate_left
      · intro w'
        go_simp
        with_reducible rfl
      rotate_left
      · simp only [Act.put, List.setIfInBounds_toArray, List.set_cons_zero, List.set_cons_succ, i64_w, i32_w]
        rfl
      refine take_ (i := 0) (N := some 97) (v := ?_) (a' := ?_) #[true, true, false, false, false, false, false, false, false, false, false, false, false] rfl rfl (take_ofW HT_.out HW_.out (by kernel_rfl)) (fun _ _ _ h => h) (Or.inl ⟨by rfl, ?_⟩) hHeld ?_ ?_
      rotate_left
      · rintro w' ⟨s0, s1, s2, s3, s4, s5, s6⟩
        go_simp
        with_reducible rfl
      rotate_left
      · simp only [Act.put, List.setIfInBounds_toArray, List.set_cons_zero, List.set_cons_succ, i64_w, i32_w]
        rfl
      refine take_ (i := 2) (N := some 99) (v := ?_) (a' := ?_) #[true, true, true, false, false, false, false, false, false, false, false, false, false] rfl rfl (take_ofW HT_.out HW_.out (by kernel_rfl)) (fun _ _ _ h => h) (Or.inl ⟨by rfl, ?_⟩) hHeld ?_ ?_
      rotate_left
      · rintro w' ⟨s0, s1, s2, s3, s4, s5, s6⟩
        go_simp
        with_reducible rfl
      rotate_left
      · simp only [Act.put, List.setIfInBounds_toArray, List.set_cons_zero, List.set_cons_succ, i64_w, i32_w]
        rfl
      refine take_ (i := 4) (N := some 101) (v := ?_) (a' := ?_) #[true, true, true, false, true, false, false, false, false, false, false, false, false] rfl rfl (take_ofW HT_.out HW_.out (by kernel_rfl)) (fun _ _ _ h => h) (Or.inl ⟨by rfl, ?_⟩) hHeld ?_ ?_
      rotate_left
      · rintro w' ⟨s0, s1, s2, s3, s4, s5, s6⟩
        go_simp
        with_reducible rfl
      rotate_left
      · simp only [Act.put, List.setIfInBounds_toArray, List.set_cons_zero, List.set_cons_succ, i64_w, i32_w]
        rfl
      refine one_ (i := 3) (N := some 100) #[true, true, true, true, true, false, false, false, false, false, false, false, false] rfl rfl (one_of HT_.out (by kernel_rfl)) (by decide) (fun K hK => ?_)
      refine goes_ Try.func20 (by kernel_rfl) rfl #[.agg #[.int .i64 n2, .slice A_7 (mrg l k).length c_7], .int .i64 s] (by rfl) rfl rfl (by simp only [List.map_toArray, List.map_cons, List.map_nil]; first | rfl | (refine congrArg List.toArray (congr (congrArg List.cons ?_) (congrArg (fun z => [z]) ?_)) <;> first | rfl | go_simp)) ?_
      with_reducible refine (below_is (mrg l k) l n2 s A_7 c_7 _ (Kd.C_below C_x.out (bt (bt N_wy1.out N_wz.out) (Below.refl wz.heap.size wz).drew)) hl_x RX ll).mono ?_
      rintro e wu0 ⟨A_w, c_w, rfl, hcw, hCw, hu0⟩
      refine ⟨_, rfl, ?_⟩
      refine hK.out _ _ ⟨pw_cell_below hu0 (hHeld.1), pw_cell_below hu0 (hHeld.2.1), pw_cell_below hu0 (hHeld.2.2.1), pw_cell_below hu0 (hHeld.2.2.2.1), pw_cell_below hu0 (hHeld.2.2.2.2.1), pw_cell_below hu0 (hHeld.2.2.2.2.2.1), pw_cell_below hu0 (hHeld.2.2.2.2.2.2)⟩ (fun hHeld => ?_)
      clear hK K
      refine norm_ (a' := ?_) ?_ ?_
      rotate_left
      · show Act.put _ (some 100) _ = _
        simp only [Act.put, List.setIfInBounds_toArray, List.set_cons_zero, List.set_cons_succ, i64_w, i32_w]
        rfl
      refine one_ (i := 5) (N := some 102) #[true, true, true, true, true, true, false, false, false, false, false, false, false] rfl rfl (one_of HT_.out (by kernel_rfl)) (by decide) (fun K hK => ?_)
      refine goes_ Try.func18 (by kernel_rfl) rfl #[.agg #[.int .i64 s, .slice A_w l.length c_w], .agg #[.int .i64 s, .slice A l.length c]] (by rfl) rfl rfl (by simp only [List.map_toArray, List.map_cons, List.map_nil]; first | rfl | (refine congrArg List.toArray (congr (congrArg List.cons ?_) (congrArg (fun z => [z]) ?_)) <;> first | rfl | go_simp)) ?_
      with_reducible refine (same_C l s A_w A c_w c _ hCw hcw (Kd.C_below C_l.out (bt (bt (bt (bt (bt (bt N_w1.out N_w4.out) N_w5.out) N_w8.out) N_wy1.out) N_wz.out) (bt (Below.refl wz.heap.size wz).drew hu0))) hl).mono ?_
      rintro e wu1 ⟨rfl, hu1⟩
      refine ⟨_, rfl, ?_⟩
      refine hK.out _ _ ⟨pw_cell_below hu1 (hHeld.1), pw_cell_below hu1 (hHeld.2.1), pw_cell_below hu1 (hHeld.2.2.1), pw_cell_below hu1 (hHeld.2.2.2.1), pw_cell_below hu1 (hHeld.2.2.2.2.1), pw_cell_below hu1 (hHeld.2.2.2.2.2.1), pw_cell_below hu1 (hHeld.2.2.2.2.2.2)⟩ (fun hHeld => ?_)
      clear hK K
      refine norm_ (a' := ?_) ?_ ?_
      rotate_left
      · show Act.put _ (some 102) _ = _
        simp only [Act.put, List.setIfInBounds_toArray, List.set_cons_zero, List.set_cons_succ, i64_w, i32_w]
        rfl
      refine pure_ (i := 6) (N := some 103) (v := ?_) (a' := ?_) #[true, true, true, true, true, true, true, false, false, false, false, false, false] rfl rfl (any_of HT_.out (by kernel_rfl)) (fun _ _ _ h => h) (Or.inl ⟨by rfl, ?_⟩) ?_ ?_
      rotate_left
      · intro w'
        go_simp
        with_reducible rfl
      rotate_left
      · simp only [Act.put, List.setIfInBounds_toArray, List.set_cons_zero, List.set_cons_succ, i64_w, i32_w]
        rfl
      refine pure_ (i := 7) (N := some 104) (v := ?_) (a' := ?_) #[true, true, true, true, true, true, true, true, false, false, false, false, false] rfl rfl (any_of HT_.out (by kernel_rfl)) (fun _ _ _ h => h) (Or.inl ⟨by rfl, ?_⟩) ?_ ?_
      rotate_left
      · intro w'
        go_simp
        with_reducible rfl
      rotate_left
      · simp only [Act.put, List.setIfInBounds_toArray, List.set_cons_zero, List.set_cons_succ, i64_w, i32_w]
        rfl
      refine take_ (i := 8) (N := some 105) (v := ?_) (a' := ?_) #[true, true, true, true, true, true, true, true, true, false, false, false, false] rfl rfl (take_ofW HT_.out HW_.out (by kernel_rfl)) (fun _ _ _ h => h) (Or.inl ⟨by rfl, ?_⟩) hHeld ?_ ?_
      rotate_left
      · rintro w' ⟨s0, s1, s2, s3, s4, s5, s6⟩
        go_simp
        with_reducible rfl
      rotate_left
      · simp only [Act.put, List.setIfInBounds_toArray, List.set_cons_zero, List.set_cons_succ, i64_w, i32_w]
        rfl
      refine take_ (i := 9) (N := some 106) (v := ?_) (a' := ?_) #[true, true, true, true, true, true, true, true, true, true, false, false, false] rfl rfl (take_ofW HT_.out HW_.out (by kernel_rfl)) (fun _ _ _ h => h) (Or.inl ⟨by rfl, ?_⟩) hHeld ?_ ?_
      rotate_left
      · rintro w' ⟨s0, s1, s2, s3, s4, s5, s6⟩
        go_simp
        with_reducible rfl
      rotate_left
      · simp only [Act.put, List.setIfInBounds_toArray, List.set_cons_zero, List.set_cons_succ, i64_w, i32_w]
        rfl
      refine one_ (i := 10) (N := some 107) #[true, true, true, true, true, true, true, true, true, true, true, false, false] rfl rfl (one_of HT_.out (by kernel_rfl)) (by decide) (fun K hK => ?_)
      refine goes_ Try.func22 (by kernel_rfl) rfl #[.agg #[.int .i64 n2, .slice B k.length d], .agg #[.int .i64 n2, .slice A_7 (mrg l k).length c_7]] (by rfl) rfl rfl (by simp only [List.map_toArray, List.map_cons, List.map_nil]; first | rfl | (refine congrArg List.toArray (congr (congrArg List.cons ?_) (congrArg (fun z => [z]) ?_)) <;> first | rfl | go_simp)) ?_
      with_reducible refine (inside_is k (mrg l k) n2 n2 B A_7 d c_7 _ (Kd.C_below C_k.out (bt (bt (bt (bt (bt (bt N_w1.out N_w4.out) N_w5.out) N_w8.out) N_wy1.out) N_wz.out) (bt (bt (Below.refl wz.heap.size wz).drew hu0) hu1))) hm (Kd.C_below C_x.out (bt (bt N_wy1.out N_wz.out) (bt (bt (Below.refl wz.heap.size wz).drew hu0) hu1))) hl_x li).mono ?_
      rintro e wu2 ⟨rfl, hu2⟩
      refine ⟨_, rfl, ?_⟩
      refine hK.out _ _ ⟨pw_cell_below hu2 (hHeld.1), pw_cell_below hu2 (hHeld.2.1), pw_cell_below hu2 (hHeld.2.2.1), pw_cell_below hu2 (hHeld.2.2.2.1), pw_cell_below hu2 (hHeld.2.2.2.2.1), pw_cell_below hu2 (hHeld.2.2.2.2.2.1), pw_cell_below hu2 (hHeld.2.2.2.2.2.2)⟩ (fun hHeld => ?_)
      clear hK K
      refine norm_ (a' := ?_) ?_ ?_
      rotate_left
      · show Act.put _ (some 107) _ = _
        simp only [Act.put, List.setIfInBounds_toArray, List.set_cons_zero, List.set_cons_succ, i64_w, i32_w]
        rfl
      refine pure_ (i := 11) (N := some 108) (v := ?_) (a' := ?_) #[true, true, true, true, true, true, true, true, true, true, true, true, false] rfl rfl (any_of HT_.out (by kernel_rfl)) (fun _ _ _ h => h) (Or.inl ⟨by rfl, ?_⟩) ?_ ?_
      rotate_left
      · intro w'
        go_simp
        with_reducible rfl
      rotate_left
      · simp only [Act.put, List.setIfInBounds_toArray, List.set_cons_zero, List.set_cons_succ, i64_w, i32_w]
        rfl
      refine pure_ (i := 12) (N := some 6) (v := ?_) (a' := ?_) #[true, true, true, true, true, true, true, true, true, true, true, true, true] rfl rfl (any_of HT_.out (by kernel_rfl)) (fun _ _ _ h => h) (Or.inl ⟨by rfl, ?_⟩) ?_ ?_
      rotate_left
      · intro w'
        go_simp
        with_reducible rfl
      rotate_left
      · simp only [Act.put, List.setIfInBounds_toArray, List.set_cons_zero, List.set_cons_succ, i64_w, i32_w]
        rfl
      refine done_ (done_of HT_.out (by kernel_rfl)) ?_
      have N_wu2 := Lib.hid (bt (bt (bt (Below.refl wz.heap.size wz).drew hu0) hu1) hu2)
      go_wp2
      go_ret
      exact ⟨rfl, (bt (bt (bt (bt (bt (bt N_w1.out N_w4.out) N_w5.out) N_w8.out) N_wy1.out) N_wz.out) N_wu2.out)⟩
end Go.Proofs.Ytbhdehkdnenigaa

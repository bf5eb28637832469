/- Walk: delta.Apply. -/
import Derived.Test.YtbhdehkdnenigaaDMerged
import Derived.Test.YtbhdehkdnenigaaDOld
set_option linter.unusedVariables false
set_option linter.unusedSimpArgs false
namespace Go.Proofs.Ytbhdehkdnenigaa
open Go.RowKit Go.Proofs.YtbhdehkdnenigaaW.PrintWords Go.Proofs.YtbhdehkdnenigaaW.PrintLast
attribute [local go_sem] Vn.val

def aP.T5 : Bool × List (List Nat × List Nat) := (true, [([], []), ([0], [0]), ([], []), ([2], [2]), ([3, 1], [3]), ([1, 4], [1, 4]), ([5], [5]), ([6, 4], [6])])
def aP.B5 : List Nat := [0, 1, 0, 4, 15, 31, 63, 127]
theorem aP.tab5 : rtab .any (opsOf Try.f16 5) = aP.T5 := by kernel_rfl
theorem aP.bits5 : waitsOk aP.T5.2 aP.B5 = true := by kernel_rfl
def aP.T7 : Bool × List (List Nat × List Nat) := (true, [([], []), ([0], [0]), ([1], [1]), ([], []), ([3], [3]), ([4], [4]), ([5, 2], [5]), ([2, 6, 6], [2, 6]), ([7, 7, 0, 1, 2, 3, 4, 5, 6, 7], [7])])
def aP.B7 : List Nat := [0, 1, 3, 0, 8, 24, 63, 127, 255]
theorem aP.tab7 : rtab .any (opsOf Try.f16 7) = aP.T7 := by kernel_rfl
theorem aP.bits7 : waitsOk aP.T7.2 aP.B7 = true := by kernel_rfl
theorem made_slice {w : World} {b0 n c : Nat} {A : Option Addr} {ok : Nat → Prop} {xs : List Vn} (h : kVn.R 48 w b0 ok (.slice A n c) xs) : xs.length ≤ c ∧ Made w b0 w.heap.size A xs := by
  obtain ⟨A', c', e, h1, h2⟩ := made_of h
  cases e
  exact ⟨h1, h2⟩
def noBucket : Value := .agg #[.int .i64 0, .slice none 0 0]
abbrev all64 : Int := -9223372036854775808
def three (w : World) (nx s nx2 : Int) (A B : Option Addr) (n k c d : Nat) : World := ((w.alloc (.cells #[.int .i64 nx, .slice A n c] 24)).alloc (.cells #[.int .i64 s, .int .i64 nx2, .slice B k d] 27)).alloc (.cells #[.int .i64 0, .slice none 0 0] 24)
theorem below3 (w : World) (o p q : Obj) : Below w.heap.size w (((w.alloc o).alloc p).alloc q) := (below2 w o p).alloc (by simp [go_sem]; omega) _
set_option maxRecDepth 100000 in
set_option maxHeartbeats 4000000 in
theorem apply_any (l m : List Vn) (nx s nx2 : Int) (A B : Option Addr) (c d : Nat) (w : World) (hC : kVn.C w A l.length l) (hl : l.length ≤ c) (HR : Room l) (hD : kVn.C w B m.length m) (hm : m.length ≤ d) (HQ : Room m) (h1 : s = nx) (h2 : l.length + m.length ≤ 256) (h3 : wrap64 (wrap64 (bsize l) + wrap64 (bsize m)) ≤ 65536) :
    Calls Try.prog 16 #[.agg #[.int .i64 nx, .slice A l.length c], .agg #[.int .i64 s, .int .i64 nx2, .slice B m.length d]] w fun e w' => ∃ v, e = .returned (.tuple #[.agg #[.int .i64 nx2, v], .int .i64 0]) ∧ kVn.R 48 w' w.heap.size (fun _ => True) v (mrg (since l all64) (since m all64)) ∧ Below w.heap.size w w' := by
  have t1 : (s == nx) = true := by simpa using h1
  have t2 : (s != nx) = false := by simpa using h1
  have t3 : decide ((256 : Int) < (l.length : Int) + (m.length : Int)) = false := decide_eq_false (by omega)
  have t4 : decide ((65536 : Int) < wrap64 (wrap64 (bsize l) + wrap64 (bsize m))) = false := decide_eq_false (Int.not_lt.2 h3)
  have HY1 := fun w' (h : Below w.heap.size w w') => Lib.hid (bytes_any l nx A c w' (Kd.C_below hC h) hl HR.fits)
  have HY2 := fun w' (h : Below w.heap.size w w') => Lib.hid (bytes_any m nx2 B d w' (Kd.C_below hD h) hm HQ.fits)
  have HA1 := fun w' (h : Below w.heap.size w w') => Lib.hid (added_any l (-9223372036854775808) A c w' (Kd.C_below hC h) hl HR)
  have HA2 := fun w' (h : Below w.heap.size w w') => Lib.hid (added_any m (-9223372036854775808) B d w' (Kd.C_below hD h) hm HQ)
  clear hC hD h3
  go_enter Try.func16, Try.ntmps16
  subst h1
  go_upto_region 5 with fail
  have hwW := below3 w (.cells #[.int .i64 s, .slice A l.length c] 24) (.cells #[.int .i64 s, .int .i64 nx2, .slice B m.length d] 27) (.cells #[.int .i64 0, .slice none 0 0] 24)
  have b0 : (three w s s nx2 A B l.length m.length c d).cell? ⟨w.heap.size, 0, none⟩ = some (.int .i64 s) := by simp [three, go_sem]
  have b1 : (three w s s nx2 A B l.length m.length c d).cell? ⟨w.heap.size, 1, none⟩ = some (.slice A l.length c) := by simp [three, go_sem]
  have d1 : (three w s s nx2 A B l.length m.length c d).cell? ⟨w.heap.size + 1, 1, none⟩ = some (.int .i64 nx2) := by simp [three, go_sem]
  have d2 : (three w s s nx2 A B l.length m.length c d).cell? ⟨w.heap.size + 1, 2, none⟩ = some (.slice B m.length d) := by simp [three, go_sem]
  have r0 : (three w s s nx2 A B l.length m.length c d).cell? ⟨w.heap.size + 1 + 1, 0, none⟩ = some (.int .i64 0) := by simp [three, go_sem]
  have r1 : (three w s s nx2 A B l.length m.length c d).cell? ⟨w.heap.size + 1 + 1, 1, none⟩ = some (.slice none 0 0) := by simp [three, go_sem]
  have rf : ∀ j, (three w s s nx2 A B l.length m.length c d).frozen? ⟨w.heap.size + 1 + 1, j, none⟩ = false := fun j => by simp [three, go_sem]
  have hsz : w.heap.size + 3 ≤ (three w s s nx2 A B l.length m.length c d).heap.size := by simp [three, go_sem]
  unfold three at b0 b1 d1 d2 r0 r1 rf hsz
  generalize hnx : s = nx at *
  generalize (((w.alloc (.cells #[.int .i64 nx, .slice A l.length c] 24)).alloc (.cells #[.int .i64 nx, .int .i64 nx2, .slice B m.length d] 27)).alloc (.cells #[.int .i64 0, .slice none 0 0] 24)) = W at *
  refine start_ (n := 8) (S := fun w' => w'.cell? ⟨w.heap.size, 0, none⟩ = some (.int .i64 nx) ∧ w'.cell? ⟨w.heap.size, 1, none⟩ = some (.slice A l.length c) ∧ w'.cell? ⟨w.heap.size + 1, 1, none⟩ = some (.int .i64 nx2) ∧ w'.cell? ⟨w.heap.size + 1, 2, none⟩ = some (.slice B m.length d)) (ds := []) #[false, false, false, false, false, false, false, false] (by kernel_rfl) rfl rfl ⟨b0, b1, d1, d2⟩ (fun hHeld => ?_)
  refine with_tabW aP.tab5 aP.bits5 (fun HT_ HW_ => ?_)
  refine pure_ (i := 2) (N := some 28) (v := ?_) (a' := ?_) #[false, false, true, false, false, false, false, false] rfl rfl (any_of HT_.out (by kernel_rfl)) (fun _ _ _ h => h) (Or.inl ⟨by rfl, ?_⟩) ?_ ?_
  rotate_left
  · intro w'
    go_simp
    with_reducible rfl
  rotate_left
  · simp only [Act.put, List.setIfInBounds_toArray, List.set_cons_zero, List.set_cons_succ, i64_w, i32_w]
    rfl
  refine take_ (i := 0) (N := some 26) (v := ?_) (a' := ?_) #[true, false, true, false, false, false, false, false] rfl rfl (take_ofW HT_.out HW_.out (by kernel_rfl)) (fun _ _ _ h => h) (Or.inl ⟨by rfl, ?_⟩) hHeld ?_ ?_
  rotate_left
  · rintro w' ⟨s0, s1, s2, s3⟩
    go_simp
    with_reducible rfl
  rotate_left
  · simp only [Act.put, List.setIfInBounds_toArray, List.set_cons_zero, List.set_cons_succ, i64_w, i32_w]
    rfl
  refine take_ (i := 3) (N := some 29) (v := ?_) (a' := ?_) #[true, false, true, true, false, false, false, false] rfl rfl (take_ofW HT_.out HW_.out (by kernel_rfl)) (fun _ _ _ h => h) (Or.inl ⟨by rfl, ?_⟩) hHeld ?_ ?_
  rotate_left
  · rintro w' ⟨s0, s1, s2, s3⟩
    go_simp
    with_reducible rfl
  rotate_left
  · simp only [Act.put, List.setIfInBounds_toArray, List.set_cons_zero, List.set_cons_succ, i64_w, i32_w]
    rfl
  refine one_ (i := 1) (N := some 27) #[true, true, true, true, false, false, false, false] rfl rfl (one_of HT_.out (by kernel_rfl)) (by decide) (fun K hK => ?_)
  refine goes_ Try.func35 (by kernel_rfl) rfl #[.agg #[.int .i64 nx, .slice A l.length c]] (by rfl) rfl rfl (by simp only [List.map_toArray, List.map_cons, List.map_nil]; rfl) ?_
  with_reducible refine ((HY1 _ hwW.drew).out).mono ?_
  rintro e w3 ⟨rfl, hb⟩
  refine ⟨_, rfl, ?_⟩
  have hb3 := hb
  have hw3 : Below w.heap.size w w3 := hwW.drew.trans (hb.mono hwW.drew.size)
  refine hK.out _ _ ⟨pw_cell_below hb (hHeld.1), pw_cell_below hb (hHeld.2.1), pw_cell_below hb (hHeld.2.2.1), pw_cell_below hb (hHeld.2.2.2)⟩ (fun hHeld => ?_)
  clear hK K
  refine norm_ (a' := ?_) ?_ ?_
  rotate_left
  · show Act.put _ (some 27) _ = _
    simp only [Act.put, List.setIfInBounds_toArray, List.set_cons_zero, List.set_cons_succ, i64_w, i32_w]
    rfl
  refine one_ (i := 4) (N := some 30) #[true, true, true, true, true, false, false, false] rfl rfl (one_of HT_.out (by kernel_rfl)) (by decide) (fun K hK => ?_)
  refine goes_ Try.func35 (by kernel_rfl) rfl #[.agg #[.int .i64 nx2, .slice B m.length d]] (by rfl) rfl rfl (by simp only [List.map_toArray, List.map_cons, List.map_nil]; rfl) ?_
  with_reducible refine ((HY2 _ hw3).out).mono ?_
  rintro e w4 ⟨rfl, hb⟩
  refine ⟨_, rfl, ?_⟩
  have hb4 := hb
  have hw4 : Below w.heap.size w w4 := hw3.trans (hb.mono hw3.size)
  have hW4 : Below W.heap.size W w4 := ((Below.refl _ _).drew.trans hb3).trans (hb.mono hb3.size)
  clear hb
  refine hK.out _ _ ⟨pw_cell_below hb4 (hHeld.1), pw_cell_below hb4 (hHeld.2.1), pw_cell_below hb4 (hHeld.2.2.1), pw_cell_below hb4 (hHeld.2.2.2)⟩ (fun hHeld => ?_)
  clear hK K
  refine norm_ (a' := ?_) ?_ ?_
  rotate_left
  · show Act.put _ (some 30) _ = _
    simp only [Act.put, List.setIfInBounds_toArray, List.set_cons_zero, List.set_cons_succ, i64_w, i32_w]
    rfl
  refine pure_ (i := 5) (N := some 31) (v := ?_) (a' := ?_) #[true, true, true, true, true, true, false, false] rfl rfl (any_of HT_.out (by kernel_rfl)) (fun _ _ _ h => h) (Or.inl ⟨by rfl, ?_⟩) ?_ ?_
  rotate_left
  · intro w'
    go_simp
    with_reducible rfl
  rotate_left
  · simp only [Act.put, List.setIfInBounds_toArray, List.set_cons_zero, List.set_cons_succ, i64_w, i32_w]
    rfl
  refine pure_ (i := 6) (N := some 32) (v := ?_) (a' := ?_) #[true, true, true, true, true, true, true, false] rfl rfl (any_of HT_.out (by kernel_rfl)) (fun _ _ _ h => h) (Or.inl ⟨by rfl, ?_⟩) ?_ ?_
  rotate_left
  · intro w'
    go_simp
    with_reducible rfl
  rotate_left
  · simp only [Act.put, List.setIfInBounds_toArray, List.set_cons_zero, List.set_cons_succ, i64_w, i32_w]
    rfl
  refine pure_ (i := 7) (N := some 25) (v := ?_) (a' := ?_) #[true, true, true, true, true, true, true, true] rfl rfl (any_of HT_.out (by kernel_rfl)) (fun _ _ _ h => h) (Or.inl ⟨by rfl, ?_⟩) ?_ ?_
  rotate_left
  · intro w'
    go_simp
    with_reducible rfl
  rotate_left
  · simp only [Act.put, List.setIfInBounds_toArray, List.set_cons_zero, List.set_cons_succ, i64_w, i32_w]
    rfl
  refine done_ (done_of HT_.out (by kernel_rfl)) ?_
  have hHeld4 := hHeld
  clear hHeld
  go_upto_region 7 with fail
  refine start_ (n := 9) (S := fun w' => w'.cell? ⟨w.heap.size, 0, none⟩ = some (.int .i64 nx) ∧ w'.cell? ⟨w.heap.size, 1, none⟩ = some (.slice A l.length c) ∧ w'.cell? ⟨w.heap.size + 1, 1, none⟩ = some (.int .i64 nx2) ∧ w'.cell? ⟨w.heap.size + 1, 2, none⟩ = some (.slice B m.length d)) (ds := []) #[false, false, false, false, false, false, false, false, false] (by kernel_rfl) rfl rfl ⟨hHeld4.1, hHeld4.2.1, hHeld4.2.2.1, hHeld4.2.2.2⟩ (fun hHeld => ?_)
  refine with_tabW aP.tab7 aP.bits7 (fun HT_ HW_ => ?_)
  refine pure_ (i := 0) (N := some 34) (v := ?_) (a' := ?_) #[true, false, false, false, false, false, false, false, false] rfl rfl (any_of HT_.out (by kernel_rfl)) (fun _ _ _ h => h) (Or.inl ⟨by rfl, ?_⟩) ?_ ?_
  rotate_left
  · intro w'
    go_simp
    with_reducible rfl
  rotate_left
  · simp only [Act.put, List.setIfInBounds_toArray, List.set_cons_zero, List.set_cons_succ, i64_w, i32_w]
    rfl
  refine pure_ (i := 3) (N := some 37) (v := ?_) (a' := ?_) #[true, false, false, true, false, false, false, false, false] rfl rfl (any_of HT_.out (by kernel_rfl)) (fun _ _ _ h => h) (Or.inl ⟨by rfl, ?_⟩) ?_ ?_
  rotate_left
  · intro w'
    go_simp
    with_reducible rfl
  rotate_left
  · simp only [Act.put, List.setIfInBounds_toArray, List.set_cons_zero, List.set_cons_succ, i64_w, i32_w]
    rfl
  refine pure_ (i := 4) (N := some 38) (v := ?_) (a' := ?_) #[true, false, false, true, true, false, false, false, false] rfl rfl (any_of HT_.out (by kernel_rfl)) (fun _ _ _ h => h) (Or.inl ⟨by rfl, ?_⟩) ?_ ?_
  rotate_left
  · intro w'
    go_simp
    with_reducible rfl
  rotate_left
  · simp only [Act.put, List.setIfInBounds_toArray, List.set_cons_zero, List.set_cons_succ, i64_w, i32_w]
    rfl
  refine take_ (i := 1) (N := some 35) (v := ?_) (a' := ?_) #[true, true, false, true, true, false, false, false, false] rfl rfl (take_ofW HT_.out HW_.out (by kernel_rfl)) (fun _ _ _ h => h) (Or.inl ⟨by rfl, ?_⟩) hHeld ?_ ?_
  rotate_left
  · rintro w' ⟨s0, s1, s2, s3⟩
    go_simp
    with_reducible rfl
  rotate_left
  · simp only [Act.put, List.setIfInBounds_toArray, List.set_cons_zero, List.set_cons_succ, i64_w, i32_w]
    rfl
  refine take_ (i := 5) (N := some 39) (v := ?_) (a' := ?_) #[true, true, false, true, true, true, false, false, false] rfl rfl (take_ofW HT_.out HW_.out (by kernel_rfl)) (fun _ _ _ h => h) (Or.inl ⟨by rfl, ?_⟩) hHeld ?_ ?_
  rotate_left
  · rintro w' ⟨s0, s1, s2, s3⟩
    go_simp
    with_reducible rfl
  rotate_left
  · simp only [Act.put, List.setIfInBounds_toArray, List.set_cons_zero, List.set_cons_succ, i64_w, i32_w]
    rfl
  refine one_ (i := 2) (N := some 36) #[true, true, true, true, true, true, false, false, false] rfl rfl (one_of HT_.out (by kernel_rfl)) (by decide) (fun K hK => ?_)
  refine goes_ Try.func28 (by kernel_rfl) rfl #[.slice none 0 0, .slice A l.length c, .int .i64 (-9223372036854775808)] (by rfl) rfl rfl (by simp only [List.map_toArray, List.map_cons, List.map_nil]; rfl) ?_
  with_reducible refine ((HA1 _ hw4.drew).out).mono ?_
  rintro e w5 ⟨v5, rfl, hv, hb⟩
  refine ⟨_, rfl, ?_⟩
  have hb5 := hb
  have hw5 : Below w.heap.size w w5 := hw4.drew.trans (hb.mono hw4.drew.size)
  obtain ⟨A5, c5, rfl⟩ := Kd.R_slice hv
  have HV5 := Lib.hid hv
  clear hv
  refine hK.out _ _ ⟨pw_cell_below hb (hHeld.1), pw_cell_below hb (hHeld.2.1), pw_cell_below hb (hHeld.2.2.1), pw_cell_below hb (hHeld.2.2.2)⟩ (fun hHeld => ?_)
  clear hK K
  refine norm_ (a' := ?_) ?_ ?_
  rotate_left
  · show Act.put _ (some 36) _ = _
    simp only [Act.put, List.setIfInBounds_toArray, List.set_cons_zero, List.set_cons_succ, i64_w, i32_w]
    rfl
  refine one_ (i := 6) (N := some 40) #[true, true, true, true, true, true, true, false, false] rfl rfl (one_of HT_.out (by kernel_rfl)) (by decide) (fun K hK => ?_)
  refine goes_ Try.func28 (by kernel_rfl) rfl #[.slice none 0 0, .slice B m.length d, .int .i64 (-9223372036854775808)] (by rfl) rfl rfl (by simp only [List.map_toArray, List.map_cons, List.map_nil]; rfl) ?_
  with_reducible refine ((HA2 _ hw5).out).mono ?_
  rintro e w6 ⟨v6, rfl, hv, hb⟩
  refine ⟨_, rfl, ?_⟩
  have hb6 := hb
  have hw6 : Below w.heap.size w w6 := hw5.trans (hb.mono hw5.size)
  obtain ⟨A6, c6, rfl⟩ := Kd.R_slice hv
  have HV6 := Lib.hid hv
  clear hv
  refine hK.out _ _ ⟨pw_cell_below hb (hHeld.1), pw_cell_below hb (hHeld.2.1), pw_cell_below hb (hHeld.2.2.1), pw_cell_below hb (hHeld.2.2.2)⟩ (fun hHeld => ?_)
  clear hK K
  refine norm_ (a' := ?_) ?_ ?_
  rotate_left
  · show Act.put _ (some 40) _ = _
    simp only [Act.put, List.setIfInBounds_toArray, List.set_cons_zero, List.set_cons_succ, i64_w, i32_w]
    rfl
  refine one_ (i := 7) (N := some 41) #[true, true, true, true, true, true, true, true, false] rfl rfl (one_of HT_.out (by kernel_rfl)) (by decide) (fun K hK => ?_)
  have hN : W.heap.size ≤ w4.drew.heap.size := hW4.size
  have R5 : kVn.R 48 w6 W.heap.size (fun _ => True) (.slice A5 (since l (-9223372036854775808)).length c5) (since l (-9223372036854775808)) := Kd.R_below (Kd.R_lower HV5.out hN) hb6
  have R6 : kVn.R 48 w6 W.heap.size (fun _ => True) (.slice A6 (since m (-9223372036854775808)).length c6) (since m (-9223372036854775808)) := Kd.R_lower HV6.out (Nat.le_trans hN hb5.size)
  obtain ⟨p1, M1⟩ := made_slice R5
  obtain ⟨p2, M2⟩ := made_slice R6
  have HM := Lib.hid (merged_any _ _ A5 A6 c5 c6 W.heap.size w6 (Nat.le_trans (Nat.le_trans hN hb5.size) hb6.size) M1 M2 p1 p2 (by have := since_len l (-9223372036854775808); have := since_len m (-9223372036854775808); omega))
  clear R5 R6 M1 M2
  refine goes_ Try.func36 (by kernel_rfl) rfl #[.slice A5 (since l (-9223372036854775808)).length c5, .slice A6 (since m (-9223372036854775808)).length c6, .func (.func 37) #[] #[]] (by rfl) rfl rfl (by simp only [List.map_toArray, List.map_cons, List.map_nil]; rfl) ?_
  with_reducible refine (HM.out).mono ?_
  rintro e w7 ⟨v7, rfl, hv, ho, hb⟩
  refine ⟨_, rfl, ?_⟩
  have hb7 := hb
  have hw7 : Below w.heap.size w w7 := hw6.trans (hb.mono hw6.size)
  obtain ⟨A7, c7, rfl⟩ := Kd.R_slice hv
  have HV7 := Lib.hid hv
  clear hv ho
  refine hK.out _ _ ⟨pw_cell_below hb (hHeld.1), pw_cell_below hb (hHeld.2.1), pw_cell_below hb (hHeld.2.2.1), pw_cell_below hb (hHeld.2.2.2)⟩ (fun hHeld => ?_)
  clear hK K
  refine norm_ (a' := ?_) ?_ ?_
  rotate_left
  · show Act.put _ (some 41) _ = _
    simp only [Act.put, List.setIfInBounds_toArray, List.set_cons_zero, List.set_cons_succ, i64_w, i32_w]
    rfl
  refine pure_ (i := 8) (N := some 6) (v := ?_) (a' := ?_) #[true, true, true, true, true, true, true, true, true] rfl rfl (any_of HT_.out (by kernel_rfl)) (fun _ _ _ h => h) (Or.inl ⟨by rfl, ?_⟩) ?_ ?_
  rotate_left
  · intro w'
    go_simp
    with_reducible rfl
  rotate_left
  · simp only [Act.put, List.setIfInBounds_toArray, List.set_cons_zero, List.set_cons_succ, i64_w, i32_w]
    rfl
  refine done_ (done_of HT_.out (by kernel_rfl)) ?_
  have hW7 : Below W.heap.size W w7 := hW4.drew.trans ((hb5.trans ((hb6.trans (hb7.mono hb6.size)).mono hb5.size)).mono hW4.drew.size)
  have r07 := pw_cell_below hW7 r0
  have r17 := pw_cell_below hW7 r1
  have rf7 : ∀ j, w7.frozen? ⟨w.heap.size + 1 + 1, j, none⟩ = false := fun j => frozen_below hW7 (show w.heap.size + 1 + 1 < W.heap.size by omega) (rf j)
  have z1 := hHeld.2.2.1
  go_wp2
  have hR2 : kVn.R 48 w7 W.heap.size (fun k => W.heap.size ≤ k) (.slice A7 (mrg (since l all64) (since m all64)).length c7) (mrg (since l all64) (since m all64)) := Kd.R_mono (Kd.R_bound HV7.out) (fun k hk => hk.2.1)
  refine bodyPost_ret (v := .tuple #[.agg #[.int .i64 nx2, .slice A7 (mrg (since l all64) (since m all64)).length c7], .int .i64 0]) (by simp [results, Try.results16, go_sem, r07, r17]) rfl ?_
  refine ⟨_, rfl, ?_, ?_⟩
  · refine Kd.R_lower (Kd.R_mono (Kd.R_far (Kd.R_far hR2 ?_ _) ?_ _) (fun _ _ => trivial)) (by omega)
    all_goals (intro k hk; show k ≠ _; simp only; omega)
  · exact (hw7.setCell (by simp; omega) _).setCell (by simp; omega) _
set_option maxRecDepth 100000 in
set_option maxHeartbeats 4000000 in
/-- refused for its bytes -/
theorem apply_bytes (l m : List Vn) (nx s nx2 : Int) (A B : Option Addr) (c d : Nat) (w : World) (hC : kVn.C w A l.length l) (hl : l.length ≤ c) (HR : Room l) (hD : kVn.C w B m.length m) (hm : m.length ≤ d) (HQ : Room m) (h1 : s = nx) (h2 : l.length + m.length ≤ 256) (h3 : ¬ wrap64 (wrap64 (bsize l) + wrap64 (bsize m)) ≤ 65536) :
    Calls Try.prog 16 #[.agg #[.int .i64 nx, .slice A l.length c], .agg #[.int .i64 s, .int .i64 nx2, .slice B m.length d]] w fun e w' => e = .returned (.tuple #[noBucket, .int .i64 76]) ∧ Below w.heap.size w w' := by
  have t1 : (s == nx) = true := by simpa using h1
  have t2 : (s != nx) = false := by simpa using h1
  have t3 : decide ((256 : Int) < (l.length : Int) + (m.length : Int)) = false := decide_eq_false (by omega)
  have t4 : decide ((65536 : Int) < wrap64 (wrap64 (bsize l) + wrap64 (bsize m))) = true := decide_eq_true (Int.not_le.1 h3)
  have HY1 := fun w' (h : Below w.heap.size w w') => Lib.hid (bytes_any l nx A c w' (Kd.C_below hC h) hl HR.fits)
  have HY2 := fun w' (h : Below w.heap.size w w') => Lib.hid (bytes_any m nx2 B d w' (Kd.C_below hD h) hm HQ.fits)
  clear hC hD h3
  go_enter Try.func16, Try.ntmps16
  subst h1
  go_upto_region 5 with fail
  have hwW := below3 w (.cells #[.int .i64 s, .slice A l.length c] 24) (.cells #[.int .i64 s, .int .i64 nx2, .slice B m.length d] 27) (.cells #[.int .i64 0, .slice none 0 0] 24)
  have b0 : (three w s s nx2 A B l.length m.length c d).cell? ⟨w.heap.size, 0, none⟩ = some (.int .i64 s) := by simp [three, go_sem]
  have b1 : (three w s s nx2 A B l.length m.length c d).cell? ⟨w.heap.size, 1, none⟩ = some (.slice A l.length c) := by simp [three, go_sem]
  have d1 : (three w s s nx2 A B l.length m.length c d).cell? ⟨w.heap.size + 1, 1, none⟩ = some (.int .i64 nx2) := by simp [three, go_sem]
  have d2 : (three w s s nx2 A B l.length m.length c d).cell? ⟨w.heap.size + 1, 2, none⟩ = some (.slice B m.length d) := by simp [three, go_sem]
  have r0 : (three w s s nx2 A B l.length m.length c d).cell? ⟨w.heap.size + 1 + 1, 0, none⟩ = some (.int .i64 0) := by simp [three, go_sem]
  have r1 : (three w s s nx2 A B l.length m.length c d).cell? ⟨w.heap.size + 1 + 1, 1, none⟩ = some (.slice none 0 0) := by simp [three, go_sem]
  have rf : ∀ j, (three w s s nx2 A B l.length m.length c d).frozen? ⟨w.heap.size + 1 + 1, j, none⟩ = false := fun j => by simp [three, go_sem]
  have hsz : w.heap.size + 3 ≤ (three w s s nx2 A B l.length m.length c d).heap.size := by simp [three, go_sem]
  unfold three at b0 b1 d1 d2 r0 r1 rf hsz
  generalize hnx : s = nx at *
  generalize (((w.alloc (.cells #[.int .i64 nx, .slice A l.length c] 24)).alloc (.cells #[.int .i64 nx, .int .i64 nx2, .slice B m.length d] 27)).alloc (.cells #[.int .i64 0, .slice none 0 0] 24)) = W at *
  refine start_ (n := 8) (S := fun w' => w'.cell? ⟨w.heap.size, 0, none⟩ = some (.int .i64 nx) ∧ w'.cell? ⟨w.heap.size, 1, none⟩ = some (.slice A l.length c) ∧ w'.cell? ⟨w.heap.size + 1, 1, none⟩ = some (.int .i64 nx2) ∧ w'.cell? ⟨w.heap.size + 1, 2, none⟩ = some (.slice B m.length d)) (ds := []) #[false, false, false, false, false, false, false, false] (by kernel_rfl) rfl rfl ⟨b0, b1, d1, d2⟩ (fun hHeld => ?_)
  refine with_tabW aP.tab5 aP.bits5 (fun HT_ HW_ => ?_)
  refine pure_ (i := 2) (N := some 28) (v := ?_) (a' := ?_) #[false, false, true, false, false, false, false, false] rfl rfl (any_of HT_.out (by kernel_rfl)) (fun _ _ _ h => h) (Or.inl ⟨by rfl, ?_⟩) ?_ ?_
  rotate_left
  · intro w'
    go_simp
    with_reducible rfl
  rotate_left
  · simp only [Act.put, List.setIfInBounds_toArray, List.set_cons_zero, List.set_cons_succ, i64_w, i32_w]
    rfl
  refine take_ (i := 0) (N := some 26) (v := ?_) (a' := ?_) #[true, false, true, false, false, false, false, false] rfl rfl (take_ofW HT_.out HW_.out (by kernel_rfl)) (fun _ _ _ h => h) (Or.inl ⟨by rfl, ?_⟩) hHeld ?_ ?_
  rotate_left
  · rintro w' ⟨s0, s1, s2, s3⟩
    go_simp
    with_reducible rfl
  rotate_left
  · simp only [Act.put, List.setIfInBounds_toArray, List.set_cons_zero, List.set_cons_succ, i64_w, i32_w]
    rfl
  refine take_ (i := 3) (N := some 29) (v := ?_) (a' := ?_) #[true, false, true, true, false, false, false, false] rfl rfl (take_ofW HT_.out HW_.out (by kernel_rfl)) (fun _ _ _ h => h) (Or.inl ⟨by rfl, ?_⟩) hHeld ?_ ?_
  rotate_left
  · rintro w' ⟨s0, s1, s2, s3⟩
    go_simp
    with_reducible rfl
  rotate_left
  · simp only [Act.put, List.setIfInBounds_toArray, List.set_cons_zero, List.set_cons_succ, i64_w, i32_w]
    rfl
  refine one_ (i := 1) (N := some 27) #[true, true, true, true, false, false, false, false] rfl rfl (one_of HT_.out (by kernel_rfl)) (by decide) (fun K hK => ?_)
  refine goes_ Try.func35 (by kernel_rfl) rfl #[.agg #[.int .i64 nx, .slice A l.length c]] (by rfl) rfl rfl (by simp only [List.map_toArray, List.map_cons, List.map_nil]; rfl) ?_
  with_reducible refine ((HY1 _ hwW.drew).out).mono ?_
  rintro e w3 ⟨rfl, hb⟩
  refine ⟨_, rfl, ?_⟩
  have hb3 := hb
  have hw3 : Below w.heap.size w w3 := hwW.drew.trans (hb.mono hwW.drew.size)
  refine hK.out _ _ ⟨pw_cell_below hb (hHeld.1), pw_cell_below hb (hHeld.2.1), pw_cell_below hb (hHeld.2.2.1), pw_cell_below hb (hHeld.2.2.2)⟩ (fun hHeld => ?_)
  clear hK K
  refine norm_ (a' := ?_) ?_ ?_
  rotate_left
  · show Act.put _ (some 27) _ = _
    simp only [Act.put, List.setIfInBounds_toArray, List.set_cons_zero, List.set_cons_succ, i64_w, i32_w]
    rfl
  refine one_ (i := 4) (N := some 30) #[true, true, true, true, true, false, false, false] rfl rfl (one_of HT_.out (by kernel_rfl)) (by decide) (fun K hK => ?_)
  refine goes_ Try.func35 (by kernel_rfl) rfl #[.agg #[.int .i64 nx2, .slice B m.length d]] (by rfl) rfl rfl (by simp only [List.map_toArray, List.map_cons, List.map_nil]; rfl) ?_
  with_reducible refine ((HY2 _ hw3).out).mono ?_
  rintro e w4 ⟨rfl, hb⟩
  refine ⟨_, rfl, ?_⟩
  have hb4 := hb
  have hw4 : Below w.heap.size w w4 := hw3.trans (hb.mono hw3.size)
  have hW4 : Below W.heap.size W w4 := ((Below.refl _ _).drew.trans hb3).trans (hb.mono hb3.size)
  clear hb
  refine hK.out _ _ ⟨pw_cell_below hb4 (hHeld.1), pw_cell_below hb4 (hHeld.2.1), pw_cell_below hb4 (hHeld.2.2.1), pw_cell_below hb4 (hHeld.2.2.2)⟩ (fun hHeld => ?_)
  clear hK K
  refine norm_ (a' := ?_) ?_ ?_
  rotate_left
  · show Act.put _ (some 30) _ = _
    simp only [Act.put, List.setIfInBounds_toArray, List.set_cons_zero, List.set_cons_succ, i64_w, i32_w]
    rfl
  refine pure_ (i := 5) (N := some 31) (v := ?_) (a' := ?_) #[true, true, true, true, true, true, false, false] rfl rfl (any_of HT_.out (by kernel_rfl)) (fun _ _ _ h => h) (Or.inl ⟨by rfl, ?_⟩) ?_ ?_
  rotate_left
  · intro w'
    go_simp
    with_reducible rfl
  rotate_left
  · simp only [Act.put, List.setIfInBounds_toArray, List.set_cons_zero, List.set_cons_succ, i64_w, i32_w]
    rfl
  refine pure_ (i := 6) (N := some 32) (v := ?_) (a' := ?_) #[true, true, true, true, true, true, true, false] rfl rfl (any_of HT_.out (by kernel_rfl)) (fun _ _ _ h => h) (Or.inl ⟨by rfl, ?_⟩) ?_ ?_
  rotate_left
  · intro w'
    go_simp
    with_reducible rfl
  rotate_left
  · simp only [Act.put, List.setIfInBounds_toArray, List.set_cons_zero, List.set_cons_succ, i64_w, i32_w]
    rfl
  refine pure_ (i := 7) (N := some 25) (v := ?_) (a' := ?_) #[true, true, true, true, true, true, true, true] rfl rfl (any_of HT_.out (by kernel_rfl)) (fun _ _ _ h => h) (Or.inl ⟨by rfl, ?_⟩) ?_ ?_
  rotate_left
  · intro w'
    go_simp
    with_reducible rfl
  rotate_left
  · simp only [Act.put, List.setIfInBounds_toArray, List.set_cons_zero, List.set_cons_succ, i64_w, i32_w]
    rfl
  refine done_ (done_of HT_.out (by kernel_rfl)) ?_
  have r07 := pw_cell_below hW4 r0
  have r17 := pw_cell_below hW4 r1
  have rf7 : ∀ j, w4.frozen? ⟨w.heap.size + 1 + 1, j, none⟩ = false := fun j => frozen_below hW4 (show w.heap.size + 1 + 1 < W.heap.size by omega) (rf j)
  clear hHeld
  go_wp2
  refine bodyPost_ret (v := .tuple #[noBucket, .int .i64 76]) (by simp [results, Try.results16, go_sem, noBucket, r07, r17]) rfl ?_
  exact ⟨rfl, by first | exact hw4 | exact (hw4.setCell (by show w.heap.size ≤ w.heap.size + 1 + 1; omega) _).setCell (by show w.heap.size ≤ w.heap.size + 1 + 1; omega) _⟩
set_option maxRecDepth 100000 in
set_option maxHeartbeats 1000000 in
/-- refused for its marker, or for its count -/
theorem apply_marker (l m : List Vn) (nx s nx2 : Int) (A B : Option Addr) (c d : Nat) (w : World) (h1 : s ≠ nx) :
    Calls Try.prog 16 #[.agg #[.int .i64 nx, .slice A l.length c], .agg #[.int .i64 s, .int .i64 nx2, .slice B m.length d]] w fun e w' => e = .returned (.tuple #[noBucket, .int .i64 91]) ∧ Below w.heap.size w w' := by
  have t1 : (s == nx) = false := by simpa using h1
  have t2 : (s != nx) = true := by simpa using h1
  have hwW := below3 w (.cells #[.int .i64 nx, .slice A l.length c] 24) (.cells #[.int .i64 s, .int .i64 nx2, .slice B m.length d] 27) (.cells #[.int .i64 0, .slice none 0 0] 24)
  go_enter Try.func16, Try.ntmps16
  go_wp2
  refine bodyPost_ret (v := .tuple #[noBucket, .int .i64 91]) (by simp [results, Try.results16, go_sem, noBucket]) rfl ?_
  exact ⟨rfl, by first | exact hwW | exact (hwW.setCell (by show w.heap.size ≤ w.heap.size + 1 + 1; omega) _).setCell (by show w.heap.size ≤ w.heap.size + 1 + 1; omega) _⟩
set_option maxRecDepth 100000 in
set_option maxHeartbeats 1000000 in
theorem apply_count (l m : List Vn) (nx s nx2 : Int) (A B : Option Addr) (c d : Nat) (w : World) (hl : l.length ≤ 9223372036854775807) (HR : l.length * 72 ≤ 140737488351232) (HQ : m.length * 72 ≤ 140737488351232) (h1 : s = nx) (h2 : ¬ l.length + m.length ≤ 256) :
    Calls Try.prog 16 #[.agg #[.int .i64 nx, .slice A l.length c], .agg #[.int .i64 s, .int .i64 nx2, .slice B m.length d]] w fun e w' => e = .returned (.tuple #[noBucket, .int .i64 75]) ∧ Below w.heap.size w w' := by
  have t1 : (s == nx) = true := by simpa using h1
  have t2 : (s != nx) = false := by simpa using h1
  subst h1
  have t3 : decide ((256 : Int) < (l.length : Int) + (m.length : Int)) = true := decide_eq_true (by omega)
  have hwW := below3 w (.cells #[.int .i64 s, .slice A l.length c] 24) (.cells #[.int .i64 s, .int .i64 nx2, .slice B m.length d] 27) (.cells #[.int .i64 0, .slice none 0 0] 24)
  go_enter Try.func16, Try.ntmps16
  go_wp2
  refine bodyPost_ret (v := .tuple #[noBucket, .int .i64 75]) (by simp [results, Try.results16, go_sem, noBucket]) rfl ?_
  exact ⟨rfl, by first | exact hwW | exact (hwW.setCell (by show w.heap.size ≤ w.heap.size + 1 + 1; omega) _).setCell (by show w.heap.size ≤ w.heap.size + 1 + 1; omega) _⟩
end Go.Proofs.Ytbhdehkdnenigaa

/- The law DeltaForward of this seat: coffer/cofferlaw19.DeltaForward returns true for every input, and its arguments read as they did.
Walk: the law DeltaForward.
Walk: the law DeltaForward answers true for every value.
What a law's contract gives its row: true is told, and what came in reads as it did.
What comes in: a bucket's value, a delta, opened to rows of versions; what the row's weights say of them. -/
import Derived.Test.YtbhdehkdnenigaaProg
import Derived.WalkKit
import Derived.ProofKit
import Derived.OpenShut
import Derived.ShutString
import Derived.Deep.DeepHandedRow
import Derived.Lib.LaidTab
import Derived.Deep.Slices
import Derived.Deep.Fields
import Derived.ChangeSame
import Derived.SizedLaws
import Derived.Test.YtbhdehkdnenigaaRows
import Derived.Test.YtbhdehkdnenigaaQF4
set_option linter.unusedVariables false
set_option linter.unusedSimpArgs false
namespace Go.Proofs.Ytbhdehkdnenigaa
open Go.RowKit Go.Proofs.YtbhdehkdnenigaaW.PrintWords Go.Proofs.YtbhdehkdnenigaaW.PrintLast

def fW.T5 : Bool × List (List Nat × List Nat) := (true, [([], []), ([], []), ([1], [1]), ([0, 2], [0, 2]), ([], []), ([], []), ([5], [5]), ([4, 6, 3], [4, 6]), ([3, 7, 0, 1, 2, 3], [0, 3]), ([7, 8, 0, 1, 2, 3, 4, 5, 6, 7, 8], [4, 7])])
def fW.B5 : List Nat := [0, 0, 2, 7, 0, 0, 32, 127, 255, 511]
theorem fW.tab5 : rtab .any (opsOf Try.f5 5) = fW.T5 := by kernel_rfl
theorem fW.bits5 : waitsOk fW.T5.2 fW.B5 = true := by kernel_rfl
def fW.T15 : Bool × List (List Nat × List Nat) := (true, [([], []), ([0], [0]), ([], []), ([1, 2, 1], [1, 2]), ([3], [3]), ([4], [4]), ([4], [4]), ([], []), ([7, 5, 3, 0, 1, 2, 3, 4, 5, 7], [5, 7]), ([6, 8, 0, 1, 2, 3, 4, 5, 6, 7, 8], [6])])
def fW.B15 : List Nat := [0, 1, 0, 7, 15, 31, 31, 0, 191, 511]
theorem fW.tab15 : rtab .any (opsOf Try.f5 15) = fW.T15 := by kernel_rfl
theorem fW.bits15 : waitsOk fW.T15.2 fW.B15 = true := by kernel_rfl
def fW.T16 : Bool × List (List Nat × List Nat) := (true, [([], []), ([0], [0]), ([], []), ([1, 2, 1], [1, 2]), ([3], [3]), ([4], [4]), ([4], [4]), ([], []), ([7, 5, 3, 0, 1, 2, 3, 4, 5, 7], [5, 7]), ([6, 8, 0, 1, 2, 3, 4, 5, 6, 7, 8], [6])])
def fW.B16 : List Nat := [0, 1, 0, 7, 15, 31, 31, 0, 191, 511]
theorem fW.tab16 : rtab .any (opsOf Try.f5 16) = fW.T16 := by kernel_rfl
theorem fW.bits16 : waitsOk fW.T16.2 fW.B16 = true := by kernel_rfl
def fW.T22 : Bool × List (List Nat × List Nat) := (true, [([], []), ([0], [0]), ([], []), ([1, 2, 1], [1, 2]), ([3], [3]), ([4], [4]), ([4], [4]), ([], []), ([7, 5, 3, 0, 1, 2, 3, 4, 5, 7], [5, 7]), ([6, 8, 0, 1, 2, 3, 4, 5, 6, 7, 8], [6])])
def fW.B22 : List Nat := [0, 1, 0, 7, 15, 31, 31, 0, 191, 511]
theorem fW.tab22 : rtab .any (opsOf Try.f5 22) = fW.T22 := by kernel_rfl
theorem fW.bits22 : waitsOk fW.T22.2 fW.B22 = true := by kernel_rfl
set_option maxRecDepth 100000 in
set_option maxHeartbeats 8000000 in
theorem forward_any (l : List Vn) (nx a b : Int) (A : Option Addr) (c : Nat) (w : World) (hC : kVn.C w A l.length l) (hl : l.length ≤ c) (HR : Room l) (hR : Rt l nx) :
    Calls Try.prog 5 #[.agg #[.int .i64 nx, .slice A l.length c], .int .i64 a, .int .i64 b] w fun e w' => e = .returned (.bool true) ∧ Below w.heap.size w w' := by
  have C_l := Lib.hid hC
  have HF := HR.fits
  clear hC
  go_enter Try.func5, Try.ntmps5
  go_upto_region 5 with (first
    | (go_at_call 8; with_reducible refine (first_any _).mono ?_; rintro e w1 ⟨rfl, hb⟩; have N_w1 := Lib.hid (bt (below1 w _) hb); have B_v_0 : Hid (World.cell? w1 ⟨w.heap.size, 0, none⟩ = some (.int .i64 nx)) := Lib.hid (box_cell hb (i := 0) rfl); have B_v_1 : Hid (World.cell? w1 ⟨w.heap.size, 1, none⟩ = some (.slice A l.length c)) := Lib.hid (box_cell hb (i := 1) rfl); have V_v_0 : World.cell? w1 ⟨w.heap.size, 0, none⟩ = some (.int .i64 nx) := pw_cell_below (Below.refl _ _) B_v_0.out; have V_v_1 : World.cell? w1 ⟨w.heap.size, 1, none⟩ = some (.slice A l.length c) := pw_cell_below (Below.refl _ _) B_v_1.out; clear hb)
    | (go_at_call 12; with_reducible refine ((right_true l nx A c _ (Kd.C_below C_l.out N_w1.out) hl HF hR)).mono ?_; rintro e w2 ⟨rfl, hb⟩; clear V_v_0 V_v_1; have N_w2 := Lib.hid hb; have V_v_0 : World.cell? w2 ⟨w.heap.size, 0, none⟩ = some (.int .i64 nx) := pw_cell_below N_w2.out B_v_0.out; have V_v_1 : World.cell? w2 ⟨w.heap.size, 1, none⟩ = some (.slice A l.length c) := pw_cell_below N_w2.out B_v_1.out; clear hb))
  have hA := numE_in a nx hR.lo hR.hi
  have hB := numE_in b nx hR.lo hR.hi
  refine start_ (n := 10) (S := fun w' => w'.cell? ⟨w.heap.size, 0, none⟩ = some (.int .i64 nx)) (ds := []) #[false, false, false, false, false, false, false, false, false, false] (by kernel_rfl) rfl rfl (V_v_0) (fun hHeld => ?_)
  refine with_tabW fW.tab5 fW.bits5 (fun HT_ HW_ => ?_)
  refine pure_ (i := 0) (N := some 25) (v := ?_) (a' := ?_) #[true, false, false, false, false, false, false, false, false, false] rfl rfl (any_of HT_.out (by kernel_rfl)) (fun _ _ _ h => h) (Or.inl ⟨by rfl, ?_⟩) ?_ ?_
  rotate_left
  · intro w'
    go_simp
    with_reducible rfl
  rotate_left
  · simp only [Act.put, List.setIfInBounds_toArray, List.set_cons_zero, List.set_cons_succ, i64_w, i32_w]
    rfl
  refine pure_ (i := 1) (N := some 26) (v := ?_) (a' := ?_) #[true, true, false, false, false, false, false, false, false, false] rfl rfl (any_of HT_.out (by kernel_rfl)) (fun _ _ _ h => h) (Or.inl ⟨by rfl, ?_⟩) ?_ ?_
  rotate_left
  · intro w'
    go_simp
    with_reducible rfl
  rotate_left
  · simp only [Act.put, List.setIfInBounds_toArray, List.set_cons_zero, List.set_cons_succ, i64_w, i32_w]
    rfl
  refine pure_ (i := 4) (N := some 29) (v := ?_) (a' := ?_) #[true, true, false, false, true, false, false, false, false, false] rfl rfl (any_of HT_.out (by kernel_rfl)) (fun _ _ _ h => h) (Or.inl ⟨by rfl, ?_⟩) ?_ ?_
  rotate_left
  · intro w'
    go_simp
    with_reducible rfl
  rotate_left
  · simp only [Act.put, List.setIfInBounds_toArray, List.set_cons_zero, List.set_cons_succ, i64_w, i32_w]
    rfl
  refine pure_ (i := 5) (N := some 30) (v := ?_) (a' := ?_) #[true, true, false, false, true, true, false, false, false, false] rfl rfl (any_of HT_.out (by kernel_rfl)) (fun _ _ _ h => h) (Or.inl ⟨by rfl, ?_⟩) ?_ ?_
  rotate_left
  · intro w'
    go_simp
    with_reducible rfl
  rotate_left
  · simp only [Act.put, List.setIfInBounds_toArray, List.set_cons_zero, List.set_cons_succ, i64_w, i32_w]
    rfl
  refine take_ (i := 2) (N := some 27) (v := ?_) (a' := ?_) #[true, true, true, false, true, true, false, false, false, false] rfl rfl (take_ofW HT_.out HW_.out (by kernel_rfl)) (fun _ _ _ h => h) (Or.inl ⟨by rfl, ?_⟩) hHeld ?_ ?_
  rotate_left
  · intro w' s0
    go_simp
    with_reducible rfl
  rotate_left
  · simp only [Act.put, List.setIfInBounds_toArray, List.set_cons_zero, List.set_cons_succ, i64_w, i32_w]
    rfl
  refine take_ (i := 6) (N := some 31) (v := ?_) (a' := ?_) #[true, true, true, false, true, true, true, false, false, false] rfl rfl (take_ofW HT_.out HW_.out (by kernel_rfl)) (fun _ _ _ h => h) (Or.inl ⟨by rfl, ?_⟩) hHeld ?_ ?_
  rotate_left
  · intro w' s0
    go_simp
    with_reducible rfl
  rotate_left
  · simp only [Act.put, List.setIfInBounds_toArray, List.set_cons_zero, List.set_cons_succ, i64_w, i32_w]
    rfl
  refine one_ (i := 3) (N := some 28) #[true, true, true, true, true, true, true, false, false, false] rfl rfl (one_of HT_.out (by kernel_rfl)) (by decide) (fun K hK => ?_)
  refine goes_ Try.func19 (by kernel_rfl) rfl #[.int .i64 a, .int .i64 nx] (by rfl) rfl rfl (by simp only [List.map_toArray, List.map_cons, List.map_nil]; first | rfl | (refine congrArg List.toArray (congr (congrArg List.cons ?_) (congrArg (fun z => [z]) ?_)) <;> first | rfl | go_simp)) ?_
  with_reducible refine (number_any a nx _ hR.lo hR.hi).mono ?_
  rintro e w5_ ⟨rfl, rfl⟩
  refine ⟨_, rfl, ?_⟩
  refine hK.out _ _ (hHeld) (fun hHeld => ?_)
  clear hK K
  refine norm_ (a' := ?_) ?_ ?_
  rotate_left
  · show Act.put _ (some 28) _ = _
    simp only [Act.put, List.setIfInBounds_toArray, List.set_cons_zero, List.set_cons_succ, i64_w, i32_w]
    rfl
  refine one_ (i := 7) (N := some 32) #[true, true, true, true, true, true, true, true, false, false] rfl rfl (one_of HT_.out (by kernel_rfl)) (by decide) (fun K hK => ?_)
  refine goes_ Try.func19 (by kernel_rfl) rfl #[.int .i64 b, .int .i64 nx] (by rfl) rfl rfl (by simp only [List.map_toArray, List.map_cons, List.map_nil]; first | rfl | (refine congrArg List.toArray (congr (congrArg List.cons ?_) (congrArg (fun z => [z]) ?_)) <;> first | rfl | go_simp)) ?_
  with_reducible refine (number_any b nx _ hR.lo hR.hi).mono ?_
  rintro e w5_ ⟨rfl, rfl⟩
  refine ⟨_, rfl, ?_⟩
  refine hK.out _ _ (hHeld) (fun hHeld => ?_)
  clear hK K
  refine norm_ (a' := ?_) ?_ ?_
  rotate_left
  · show Act.put _ (some 32) _ = _
    simp only [Act.put, List.setIfInBounds_toArray, List.set_cons_zero, List.set_cons_succ, i64_w, i32_w]
    rfl
  refine pure_ (i := 8) (N := some 1) (v := ?_) (a' := ?_) #[true, true, true, true, true, true, true, true, true, false] rfl rfl (any_of HT_.out (by kernel_rfl)) (fun _ _ _ h => h) (Or.inl ⟨by rfl, ?_⟩) ?_ ?_
  rotate_left
  · intro w'
    go_simp
    with_reducible rfl
  rotate_left
  · simp only [Act.put, List.setIfInBounds_toArray, List.set_cons_zero, List.set_cons_succ, i64_w, i32_w]
    rfl
  refine pure_ (i := 9) (N := some 2) (v := ?_) (a' := ?_) #[true, true, true, true, true, true, true, true, true, true] rfl rfl (any_of HT_.out (by kernel_rfl)) (fun _ _ _ h => h) (Or.inl ⟨by rfl, ?_⟩) ?_ ?_
  rotate_left
  · intro w'
    go_simp
    with_reducible rfl
  rotate_left
  · simp only [Act.put, List.setIfInBounds_toArray, List.set_cons_zero, List.set_cons_succ, i64_w, i32_w]
    rfl
  refine done_ (done_of HT_.out (by kernel_rfl)) ?_
  clear hHeld
  generalize numE a nx = ma at *
  generalize numE b nx = nb at *
  have N_w3 : Hid (Below w2.heap.size w2 w2.drew) := Lib.hid ((Below.refl _ _).drew)
  clear V_v_0 V_v_1
  generalize w2.drew = w3 at *
  by_cases q : nb < ma
  · have t0 : decide (nb < ma) = true := decide_eq_true q
    have hmn : nb ≤ ma := by omega
    have q1 : 1 ≤ nb := by omega
    have q2 : ma ≤ nx := by omega
    clear hA hB q
    have rt := hR
    have HRn : Room (lower l ma) := room_filter HR _
    have HRm : Room (lower l nb) := room_filter HR _
    have HR_d : Room (since l nb) := room_filter HR _
    have HR_o : Room (since (lower l ma) nb) := room_filter HRn _
    have HR_t : Room (since l ma) := room_filter HR _
    have rtn := rt.lower (Int.le_trans q1 hmn) q2
    have hd1 := dRight_since rt q1 (Int.le_trans hmn q2)
    have hd2 := dRight_since rtn q1 hmn
    have hd3 := dRight_since rt (Int.le_trans q1 hmn) q2
    have V_v_0 : World.cell? w3 ⟨w.heap.size, 0, none⟩ = some (.int .i64 nx) := pw_cell_below (bt N_w2.out N_w3.out) B_v_0.out
    have V_v_1 : World.cell? w3 ⟨w.heap.size, 1, none⟩ = some (.slice A l.length c) := pw_cell_below (bt N_w2.out N_w3.out) B_v_1.out
    go_upto_region 15 with (first
      | (go_at_call 20; (with_reducible refine (below_C l nx nb A c _ (Kd.C_below C_l.out (bt (bt N_w1.out N_w2.out) N_w3.out)) hl HR).mono ?_; rintro e w4 ⟨A_u, c_u, rfl, hl_, hC_, hb⟩; clear V_v_0 V_v_1; have N_w4 := Lib.hid (bt (x := w3) (Below.refl _ _) hb); have C_u := Lib.hid hC_; have hl_u := hl_; clear hC_ hl_; have V_v_0 : World.cell? (World.alloc w4 (.cells #[.int .i64 nb, .slice A_u (lower l nb).length c_u] 24)) ⟨w.heap.size, 0, none⟩ = some (.int .i64 nx) := pw_cell_below (below1 w4 _) (pw_cell_below (bt (bt N_w2.out N_w3.out) N_w4.out) B_v_0.out); have V_v_1 : World.cell? (World.alloc w4 (.cells #[.int .i64 nb, .slice A_u (lower l nb).length c_u] 24)) ⟨w.heap.size, 1, none⟩ = some (.slice A l.length c) := pw_cell_below (below1 w4 _) (pw_cell_below (bt (bt N_w2.out N_w3.out) N_w4.out) B_v_1.out); clear hb))
      | (go_at_call 20; (with_reducible refine (below_C l nx ma A c _ (Kd.C_below C_l.out (bt (bt (bt (bt N_w1.out N_w2.out) N_w3.out) N_w4.out) (below1 _ _))) hl HR).mono ?_; rintro e w5 ⟨A_k, c_k, rfl, hl_, hC_, hb⟩; clear V_v_0 V_v_1; have N_w5 := Lib.hid (bt (x := w4) (below1 _ _) hb); have B_u_0 : Hid (World.cell? w5 ⟨w4.heap.size, 0, none⟩ = some (.int .i64 nb)) := Lib.hid (box_cell hb (i := 0) rfl); have B_u_1 : Hid (World.cell? w5 ⟨w4.heap.size, 1, none⟩ = some (.slice A_u (lower l nb).length c_u)) := Lib.hid (box_cell hb (i := 1) rfl); have C_k := Lib.hid hC_; have hl_k := hl_; clear hC_ hl_; have V_v_0 : World.cell? (World.alloc w5 (.cells #[.int .i64 ma, .slice A_k (lower l ma).length c_k] 24)) ⟨w.heap.size, 0, none⟩ = some (.int .i64 nx) := pw_cell_below (below1 w5 _) (pw_cell_below (bt (bt (bt N_w2.out N_w3.out) N_w4.out) N_w5.out) B_v_0.out); have V_v_1 : World.cell? (World.alloc w5 (.cells #[.int .i64 ma, .slice A_k (lower l ma).length c_k] 24)) ⟨w.heap.size, 1, none⟩ = some (.slice A l.length c) := pw_cell_below (below1 w5 _) (pw_cell_below (bt (bt (bt N_w2.out N_w3.out) N_w4.out) N_w5.out) B_v_1.out); clear hb))
      | (go_at_call 10; (with_reducible refine (copy_C l nx A c _ (Kd.C_below C_l.out (bt (bt (bt (bt (bt N_w1.out N_w2.out) N_w3.out) N_w4.out) N_w5.out) (below1 _ _))) hl HR).mono ?_; rintro e w6 ⟨A_1, c_1, rfl, hl_, hC_, hb⟩; clear V_v_0 V_v_1; have N_w6 := Lib.hid (bt (x := w5) (below1 _ _) hb); have B_k_0 : Hid (World.cell? w6 ⟨w5.heap.size, 0, none⟩ = some (.int .i64 ma)) := Lib.hid (box_cell hb (i := 0) rfl); have B_k_1 : Hid (World.cell? w6 ⟨w5.heap.size, 1, none⟩ = some (.slice A_k (lower l ma).length c_k)) := Lib.hid (box_cell hb (i := 1) rfl); have C_k1 := Lib.hid hC_; have hl_k1 := hl_; clear hC_ hl_; clear hb))
      | (go_at_call 9; (with_reducible refine (since_C l nx nb A_1 c_1 _ (Kd.C_below C_k1.out (Below.refl _ _)) hl_k1 HR q1 (Int.le_trans hmn q2)).mono ?_; rintro e w7 ⟨A_d, c_d, rfl, hl_, hC_, hb⟩; have N_w7 := Lib.hid (bt (x := w6) (Below.refl _ _) hb); have C_d := Lib.hid hC_; have hl_d := hl_; clear hC_ hl_; have V_k_0 : World.cell? (World.alloc w7 (.cells #[.int .i64 nb, .int .i64 nx, .slice A_d (since l nb).length c_d] 27)) ⟨w5.heap.size, 0, none⟩ = some (.int .i64 ma) := pw_cell_below (below1 w7 _) (pw_cell_below N_w7.out B_k_0.out); have V_k_1 : World.cell? (World.alloc w7 (.cells #[.int .i64 nb, .int .i64 nx, .slice A_d (since l nb).length c_d] 27)) ⟨w5.heap.size, 1, none⟩ = some (.slice A_k (lower l ma).length c_k) := pw_cell_below (below1 w7 _) (pw_cell_below N_w7.out B_k_1.out); clear hb))
      | (go_at_call 10; (with_reducible refine (copy_C (lower l ma) ma A_k c_k _ (Kd.C_below C_k.out (bt (bt N_w6.out N_w7.out) (below1 _ _))) hl_k HRn).mono ?_; rintro e w8 ⟨A_2, c_2, rfl, hl_, hC_, hb⟩; clear V_k_0 V_k_1; have N_w8 := Lib.hid (bt (x := w7) (below1 _ _) hb); have B_d_0 : Hid (World.cell? w8 ⟨w7.heap.size, 0, none⟩ = some (.int .i64 nb)) := Lib.hid (box_cell hb (i := 0) rfl); have B_d_1 : Hid (World.cell? w8 ⟨w7.heap.size, 1, none⟩ = some (.int .i64 nx)) := Lib.hid (box_cell hb (i := 1) rfl); have B_d_2 : Hid (World.cell? w8 ⟨w7.heap.size, 2, none⟩ = some (.slice A_d (since l nb).length c_d)) := Lib.hid (box_cell hb (i := 2) rfl); have C_k2 := Lib.hid hC_; have hl_k2 := hl_; clear hC_ hl_; clear hb))
      | (go_at_call 9; (with_reducible refine (since_C (lower l ma) ma nb A_2 c_2 _ (Kd.C_below C_k2.out (Below.refl _ _)) hl_k2 HRn q1 hmn).mono ?_; rintro e w9 ⟨A_o, c_o, rfl, hl_, hC_, hb⟩; have N_w9 := Lib.hid (bt (x := w8) (Below.refl _ _) hb); have C_o := Lib.hid hC_; have hl_o := hl_; clear hC_ hl_; have V_v_0 : World.cell? (World.alloc w9 (.cells #[.int .i64 nb, .int .i64 ma, .slice A_o (since (lower l ma) nb).length c_o] 27)) ⟨w.heap.size, 0, none⟩ = some (.int .i64 nx) := pw_cell_below (below1 w9 _) (pw_cell_below (bt (bt (bt (bt (bt (bt (bt N_w2.out N_w3.out) N_w4.out) N_w5.out) N_w6.out) N_w7.out) N_w8.out) N_w9.out) B_v_0.out); have V_v_1 : World.cell? (World.alloc w9 (.cells #[.int .i64 nb, .int .i64 ma, .slice A_o (since (lower l ma) nb).length c_o] 27)) ⟨w.heap.size, 1, none⟩ = some (.slice A l.length c) := pw_cell_below (below1 w9 _) (pw_cell_below (bt (bt (bt (bt (bt (bt (bt N_w2.out N_w3.out) N_w4.out) N_w5.out) N_w6.out) N_w7.out) N_w8.out) N_w9.out) B_v_1.out); clear hb))
      | (go_at_call 10; (with_reducible refine (copy_C l nx A c _ (Kd.C_below C_l.out (bt (bt (bt (bt (bt (bt (bt (bt (bt N_w1.out N_w2.out) N_w3.out) N_w4.out) N_w5.out) N_w6.out) N_w7.out) N_w8.out) N_w9.out) (below1 _ _))) hl HR).mono ?_; rintro e wA ⟨A_3, c_3, rfl, hl_, hC_, hb⟩; clear V_v_0 V_v_1; have N_wA := Lib.hid (bt (x := w9) (below1 _ _) hb); have B_o_0 : Hid (World.cell? wA ⟨w9.heap.size, 0, none⟩ = some (.int .i64 nb)) := Lib.hid (box_cell hb (i := 0) rfl); have B_o_1 : Hid (World.cell? wA ⟨w9.heap.size, 1, none⟩ = some (.int .i64 ma)) := Lib.hid (box_cell hb (i := 1) rfl); have B_o_2 : Hid (World.cell? wA ⟨w9.heap.size, 2, none⟩ = some (.slice A_o (since (lower l ma) nb).length c_o)) := Lib.hid (box_cell hb (i := 2) rfl); have C_k3 := Lib.hid hC_; have hl_k3 := hl_; clear hC_ hl_; clear hb))
      | (go_at_call 9; (with_reducible refine (since_C l nx ma A_3 c_3 _ (Kd.C_below C_k3.out (Below.refl _ _)) hl_k3 HR (Int.le_trans q1 hmn) q2).mono ?_; rintro e wB ⟨A_t, c_t, rfl, hl_, hC_, hb⟩; have N_wB := Lib.hid (bt (x := wA) (Below.refl _ _) hb); have C_t := Lib.hid hC_; have hl_t := hl_; clear hC_ hl_; have V_d_0 : World.cell? (World.alloc wB (.cells #[.int .i64 ma, .int .i64 nx, .slice A_t (since l ma).length c_t] 27)) ⟨w7.heap.size, 0, none⟩ = some (.int .i64 nb) := pw_cell_below (below1 wB _) (pw_cell_below (bt (bt N_w9.out N_wA.out) N_wB.out) B_d_0.out); have V_d_1 : World.cell? (World.alloc wB (.cells #[.int .i64 ma, .int .i64 nx, .slice A_t (since l ma).length c_t] 27)) ⟨w7.heap.size, 1, none⟩ = some (.int .i64 nx) := pw_cell_below (below1 wB _) (pw_cell_below (bt (bt N_w9.out N_wA.out) N_wB.out) B_d_1.out); have V_d_2 : World.cell? (World.alloc wB (.cells #[.int .i64 ma, .int .i64 nx, .slice A_t (since l ma).length c_t] 27)) ⟨w7.heap.size, 2, none⟩ = some (.slice A_d (since l nb).length c_d) := pw_cell_below (below1 wB _) (pw_cell_below (bt (bt N_w9.out N_wA.out) N_wB.out) B_d_2.out); clear hb))
      | (go_at_call 15; (with_reducible refine (dRight_C (since l nb) nx nb A_d c_d _ (Kd.C_below C_d.out (bt (bt (bt (bt N_w8.out N_w9.out) N_wA.out) N_wB.out) (below1 _ _))) hl_d HR_d hd1).mono ?_; rintro e wC ⟨rfl, hb⟩; clear V_d_0 V_d_1 V_d_2; have N_wC := Lib.hid (bt (x := wB) (below1 _ _) hb); have B_t_0 : Hid (World.cell? wC ⟨wB.heap.size, 0, none⟩ = some (.int .i64 ma)) := Lib.hid (box_cell hb (i := 0) rfl); have B_t_1 : Hid (World.cell? wC ⟨wB.heap.size, 1, none⟩ = some (.int .i64 nx)) := Lib.hid (box_cell hb (i := 1) rfl); have B_t_2 : Hid (World.cell? wC ⟨wB.heap.size, 2, none⟩ = some (.slice A_t (since l ma).length c_t)) := Lib.hid (box_cell hb (i := 2) rfl); have V_o_0 : World.cell? wC ⟨w9.heap.size, 0, none⟩ = some (.int .i64 nb) := pw_cell_below (bt N_wB.out N_wC.out) B_o_0.out; have V_o_1 : World.cell? wC ⟨w9.heap.size, 1, none⟩ = some (.int .i64 ma) := pw_cell_below (bt N_wB.out N_wC.out) B_o_1.out; have V_o_2 : World.cell? wC ⟨w9.heap.size, 2, none⟩ = some (.slice A_o (since (lower l ma) nb).length c_o) := pw_cell_below (bt N_wB.out N_wC.out) B_o_2.out; clear hb))
      | (go_at_call 15; (with_reducible refine (dRight_C (since (lower l ma) nb) ma nb A_o c_o _ (Kd.C_below C_o.out (bt (bt N_wA.out N_wB.out) N_wC.out)) hl_o HR_o hd2).mono ?_; rintro e wD ⟨rfl, hb⟩; clear V_o_0 V_o_1 V_o_2; have N_wD := Lib.hid (bt (x := wC) (Below.refl _ _) hb); have V_t_0 : World.cell? wD ⟨wB.heap.size, 0, none⟩ = some (.int .i64 ma) := pw_cell_below N_wD.out B_t_0.out; have V_t_1 : World.cell? wD ⟨wB.heap.size, 1, none⟩ = some (.int .i64 nx) := pw_cell_below N_wD.out B_t_1.out; have V_t_2 : World.cell? wD ⟨wB.heap.size, 2, none⟩ = some (.slice A_t (since l ma).length c_t) := pw_cell_below N_wD.out B_t_2.out; clear hb))
      | (go_at_call 15; (with_reducible refine (dRight_C (since l ma) nx ma A_t c_t _ (Kd.C_below C_t.out (bt N_wC.out N_wD.out)) hl_t HR_t hd3).mono ?_; rintro e wE ⟨rfl, hb⟩; clear V_t_0 V_t_1 V_t_2; have N_wE := Lib.hid (bt (x := wD) (Below.refl _ _) hb); clear hb))
      )
    refine start_ (n := 10) (S := fun w' => w'.cell? ⟨w4.heap.size, 0, none⟩ = some (.int .i64 nb) ∧ w'.cell? ⟨w4.heap.size, 1, none⟩ = some (.slice A_u (lower l nb).length c_u) ∧ w'.cell? ⟨w7.heap.size, 0, none⟩ = some (.int .i64 nb) ∧ w'.cell? ⟨w7.heap.size, 1, none⟩ = some (.int .i64 nx) ∧ w'.cell? ⟨w7.heap.size, 2, none⟩ = some (.slice A_d (since l nb).length c_d)) (ds := [8]) #[false, false, false, false, false, false, false, false, false, false] (by kernel_rfl) rfl rfl ⟨pw_cell_below (bt (bt (bt (bt (bt (bt (bt (bt (bt N_w6.out N_w7.out) N_w8.out) N_w9.out) N_wA.out) N_wB.out) N_wC.out) N_wD.out) N_wE.out) (Below.refl _ _).drew) B_u_0.out, pw_cell_below (bt (bt (bt (bt (bt (bt (bt (bt (bt N_w6.out N_w7.out) N_w8.out) N_w9.out) N_wA.out) N_wB.out) N_wC.out) N_wD.out) N_wE.out) (Below.refl _ _).drew) B_u_1.out, pw_cell_below (bt (bt (bt (bt (bt (bt N_w9.out N_wA.out) N_wB.out) N_wC.out) N_wD.out) N_wE.out) (Below.refl _ _).drew) B_d_0.out, pw_cell_below (bt (bt (bt (bt (bt (bt N_w9.out N_wA.out) N_wB.out) N_wC.out) N_wD.out) N_wE.out) (Below.refl _ _).drew) B_d_1.out, pw_cell_below (bt (bt (bt (bt (bt (bt N_w9.out N_wA.out) N_wB.out) N_wC.out) N_wD.out) N_wE.out) (Below.refl _ _).drew) B_d_2.out⟩ (fun hHeld => ?_)
    refine with_tabW fW.tab15 fW.bits15 (fun HT_ HW_ => ?_)
    refine take_ (i := 0) (N := some 91) (v := ?_) (a' := ?_) #[true, false, false, false, false, false, false, false, false, false] rfl rfl (take_ofW HT_.out HW_.out (by kernel_rfl)) (fun _ _ _ h => h) (Or.inl ⟨by rfl, ?_⟩) hHeld ?_ ?_
    rotate_left
    · rintro w' ⟨s0, s1, s2, s3, s4⟩
      go_simp
      with_reducible rfl
    rotate_left
    · simp only [Act.put, List.setIfInBounds_toArray, List.set_cons_zero, List.set_cons_succ, i64_w, i32_w]
      rfl
    refine take_ (i := 2) (N := some 93) (v := ?_) (a' := ?_) #[true, false, true, false, false, false, false, false, false, false] rfl rfl (take_ofW HT_.out HW_.out (by kernel_rfl)) (fun _ _ _ h => h) (Or.inl ⟨by rfl, ?_⟩) hHeld ?_ ?_
    rotate_left
    · rintro w' ⟨s0, s1, s2, s3, s4⟩
      go_simp
      with_reducible rfl
    rotate_left
    · simp only [Act.put, List.setIfInBounds_toArray, List.set_cons_zero, List.set_cons_succ, i64_w, i32_w]
      rfl
    refine join_ (σ := Nat × Option Addr × Nat × Option Addr × Nat) 2 #[true, true, true, true, true, true, true, true, false, false] (fun s => [(92, .agg #[.int .i64 nb, .slice s.2.1 (lower l nb).length s.2.2.1]), (94, .tuple #[.agg #[.int .i64 nx, .slice s.2.2.2.1 l.length s.2.2.2.2], .int .i64 0]), (90, .tuple #[.agg #[.int .i64 nx, .slice s.2.2.2.1 l.length s.2.2.2.2], .int .i64 0]), (95, .agg #[.int .i64 nx, .slice s.2.2.2.1 l.length s.2.2.2.2]), (96, .int .i64 0), (15, .pointer (some ⟨s.1, 0, none⟩))]) (fun s w' => (Below wE.heap.size wE w' ∧ Zbox w' s.1 ∧ wE.heap.size ≤ s.1 ∧ kVn.R 48 w' wE.heap.size (fun k => k ≠ s.1) (.slice s.2.2.2.1 l.length s.2.2.2.2) l)) ?_ ?_
    rotate_left
    · intro hCont
      refine two_ (i := 1) (j := 7) (Ni := some 92) (Nj := some 15) #[true, true, true, false, false, false, false, false, false, false] #[true, false, true, false, false, false, false, true, false, false] rfl rfl rfl rfl (two_of HT_.out (by kernel_rfl)) (by decide) (by decide) (fun K hK => ?_) (fun K hK => ?_)
      · skip
        refine goes_ Try.func10 (by kernel_rfl) rfl #[.agg #[.int .i64 nb, .slice A_u (lower l nb).length c_u]] (by rfl) rfl rfl (by simp only [List.map_toArray, List.map_cons, List.map_nil]; first | rfl | (refine congrArg List.toArray (congr (congrArg List.cons ?_) (congrArg (fun z => [z]) ?_)) <;> first | rfl | go_simp)) ?_
        with_reducible refine (copy_C (lower l nb) nb A_u c_u _ (Kd.C_below C_u.out (bt (bt (bt (bt (bt (bt (bt (bt (bt (bt N_w5.out N_w6.out) N_w7.out) N_w8.out) N_w9.out) N_wA.out) N_wB.out) N_wC.out) N_wD.out) N_wE.out) (Below.refl _ _).drew)) hl_u HRm).mono ?_
        rintro e wa ⟨Ac, cc, rfl, hcc, hCc, hba⟩
        refine ⟨_, rfl, ?_⟩
        refine hK.out _ _ ⟨pw_cell_below hba (hHeld.1), pw_cell_below hba (hHeld.2.1), pw_cell_below hba (hHeld.2.2.1), pw_cell_below hba (hHeld.2.2.2.1), pw_cell_below hba (hHeld.2.2.2.2)⟩ (fun hHeld => ?_)
        clear hK K
        refine norm_ (a' := ?_) ?_ ?_
        rotate_left
        · show Act.put _ (some 92) _ = _
          simp only [Act.put, List.setIfInBounds_toArray, List.set_cons_zero, List.set_cons_succ, i64_w, i32_w]
          rfl
        refine two_ (i := 3) (j := 7) (Ni := some 94) (Nj := some 15) #[true, true, true, true, false, false, false, false, false, false] #[true, true, true, false, false, false, false, true, false, false] rfl rfl rfl rfl (two_of HT_.out (by kernel_rfl)) (by decide) (by decide) (fun K hK => ?_) (fun K hK => ?_)
        · skip
          refine goes_ Try.func16 (by kernel_rfl) rfl #[.agg #[.int .i64 nb, .slice Ac (lower l nb).length cc], .agg #[.int .i64 nb, .int .i64 nx, .slice A_d (since l nb).length c_d]] (by rfl) rfl rfl (by simp only [List.map_toArray, List.map_cons, List.map_nil]; first | rfl | (refine congrArg List.toArray (congr (congrArg List.cons ?_) (congrArg (fun z => [z]) ?_)) <;> first | rfl | go_simp)) ?_
          with_reducible refine (apply_R (lower l nb) (since l nb) l nb nx Ac A_d cc c_d _ (Kd.C_below hCc (Below.refl _ _)) hcc HRm (Kd.C_below C_d.out (bt (bt (bt (bt (bt (bt (bt N_w8.out N_w9.out) N_wA.out) N_wB.out) N_wC.out) N_wD.out) N_wE.out) (bt (Below.refl _ _).drew hba))) hl_d HR_d (bytes_since rt nb).1 (bytes_since rt nb).2 (mrg_all rt nb)).mono ?_
          rintro e wb ⟨Ax, cx, rfl, hcx, hRx, hbb⟩
          refine ⟨_, rfl, ?_⟩
          refine hK.out _ _ ⟨pw_cell_below hbb (hHeld.1), pw_cell_below hbb (hHeld.2.1), pw_cell_below hbb (hHeld.2.2.1), pw_cell_below hbb (hHeld.2.2.2.1), pw_cell_below hbb (hHeld.2.2.2.2)⟩ (fun hHeld => ?_)
          clear hK K
          refine norm_ (a' := ?_) ?_ ?_
          rotate_left
          · show Act.put _ (some 94) _ = _
            simp only [Act.put, List.setIfInBounds_toArray, List.set_cons_zero, List.set_cons_succ, i64_w, i32_w]
            rfl
          refine pure_ (i := 4) (N := some 90) (v := ?_) (a' := ?_) #[true, true, true, true, true, false, false, false, false, false] rfl rfl (any_of HT_.out (by kernel_rfl)) (fun _ _ _ h => h) (Or.inl ⟨by rfl, ?_⟩) ?_ ?_
          rotate_left
          · intro w'
            go_simp
            with_reducible rfl
          rotate_left
          · simp only [Act.put, List.setIfInBounds_toArray, List.set_cons_zero, List.set_cons_succ, i64_w, i32_w]
            rfl
          refine pure_ (i := 5) (N := some 95) (v := ?_) (a' := ?_) #[true, true, true, true, true, true, false, false, false, false] rfl rfl (any_of HT_.out (by kernel_rfl)) (fun _ _ _ h => h) (Or.inl ⟨by rfl, ?_⟩) ?_ ?_
          rotate_left
          · intro w'
            go_simp
            with_reducible rfl
          rotate_left
          · simp only [Act.put, List.setIfInBounds_toArray, List.set_cons_zero, List.set_cons_succ, i64_w, i32_w]
            rfl
          refine pure_ (i := 6) (N := some 96) (v := ?_) (a' := ?_) #[true, true, true, true, true, true, true, false, false, false] rfl rfl (any_of HT_.out (by kernel_rfl)) (fun _ _ _ h => h) (Or.inl ⟨by rfl, ?_⟩) ?_ ?_
          rotate_left
          · intro w'
            go_simp
            with_reducible rfl
          rotate_left
          · simp only [Act.put, List.setIfInBounds_toArray, List.set_cons_zero, List.set_cons_succ, i64_w, i32_w]
            rfl
          refine one_ (i := 7) (N := some 15) #[true, true, true, true, true, true, true, true, false, false] rfl rfl (one_of HT_.out (by kernel_rfl)) (by decide) (fun K hK => ?_)
          refine value_ (w1 := ?_) (v := ?_) (by rfl) rfl ?_ ?_
          rotate_left 2
          · go_simp
            constructor
            · rfl
            · rfl
          refine hK.out _ _ ⟨pw_cell_below (below1 _ _) (hHeld.1), pw_cell_below (below1 _ _) (hHeld.2.1), pw_cell_below (below1 _ _) (hHeld.2.2.1), pw_cell_below (below1 _ _) (hHeld.2.2.2.1), pw_cell_below (below1 _ _) (hHeld.2.2.2.2)⟩ (fun hHeld => ?_)
          clear hK K
          refine norm_ (a' := ?_) ?_ ?_
          rotate_left
          · show Act.put _ (some 15) _ = _
            simp only [Act.put, List.setIfInBounds_toArray, List.set_cons_zero, List.set_cons_succ, i64_w, i32_w]
            rfl
          exact norm_ (by simp only [putAll, Act.put, List.setIfInBounds_toArray, List.set_cons_zero, List.set_cons_succ]) (hCont (wb.heap.size, Ac, cc, Ax, cx) _ ⟨(bt (bt (bt (Below.refl _ _).drew hba) hbb) (below1 _ _)), zbox_new _, ((bt (bt (Below.refl wE.heap.size wE).drew hba) hbb)).size, r_new hRx (show wE.heap.size ≤ wa.heap.size from ((bt (Below.refl wE.heap.size wE).drew hba)).size) _⟩)
        · skip
          refine value_ (w1 := ?_) (v := ?_) (by rfl) rfl ?_ ?_
          rotate_left 2
          · go_simp
            constructor
            · rfl
            · rfl
          refine hK.out _ _ ⟨pw_cell_below (below1 _ _) (hHeld.1), pw_cell_below (below1 _ _) (hHeld.2.1), pw_cell_below (below1 _ _) (hHeld.2.2.1), pw_cell_below (below1 _ _) (hHeld.2.2.2.1), pw_cell_below (below1 _ _) (hHeld.2.2.2.2)⟩ (fun hHeld => ?_)
          clear hK K
          refine norm_ (a' := ?_) ?_ ?_
          rotate_left
          · show Act.put _ (some 15) _ = _
            simp only [Act.put, List.setIfInBounds_toArray, List.set_cons_zero, List.set_cons_succ, i64_w, i32_w]
            rfl
          refine one_ (i := 3) (N := some 94) #[true, true, true, true, false, false, false, true, false, false] rfl rfl (one_of HT_.out (by kernel_rfl)) (by decide) (fun K hK => ?_)
          refine goes_ Try.func16 (by kernel_rfl) rfl #[.agg #[.int .i64 nb, .slice Ac (lower l nb).length cc], .agg #[.int .i64 nb, .int .i64 nx, .slice A_d (since l nb).length c_d]] (by rfl) rfl rfl (by simp only [List.map_toArray, List.map_cons, List.map_nil]; first | rfl | (refine congrArg List.toArray (congr (congrArg List.cons ?_) (congrArg (fun z => [z]) ?_)) <;> first | rfl | go_simp)) ?_
          with_reducible refine (apply_R (lower l nb) (since l nb) l nb nx Ac A_d cc c_d _ (Kd.C_below hCc (below1 _ _)) hcc HRm (Kd.C_below C_d.out (bt (bt (bt (bt (bt (bt (bt N_w8.out N_w9.out) N_wA.out) N_wB.out) N_wC.out) N_wD.out) N_wE.out) (bt (bt (Below.refl _ _).drew hba) (below1 _ _)))) hl_d HR_d (bytes_since rt nb).1 (bytes_since rt nb).2 (mrg_all rt nb)).mono ?_
          rintro e wb ⟨Ax, cx, rfl, hcx, hRx, hbb⟩
          refine ⟨_, rfl, ?_⟩
          refine hK.out _ _ ⟨pw_cell_below hbb (hHeld.1), pw_cell_below hbb (hHeld.2.1), pw_cell_below hbb (hHeld.2.2.1), pw_cell_below hbb (hHeld.2.2.2.1), pw_cell_below hbb (hHeld.2.2.2.2)⟩ (fun hHeld => ?_)
          clear hK K
          refine norm_ (a' := ?_) ?_ ?_
          rotate_left
          · show Act.put _ (some 94) _ = _
            simp only [Act.put, List.setIfInBounds_toArray, List.set_cons_zero, List.set_cons_succ, i64_w, i32_w]
            rfl
          refine pure_ (i := 4) (N := some 90) (v := ?_) (a' := ?_) #[true, true, true, true, true, false, false, true, false, false] rfl rfl (any_of HT_.out (by kernel_rfl)) (fun _ _ _ h => h) (Or.inl ⟨by rfl, ?_⟩) ?_ ?_
          rotate_left
          · intro w'
            go_simp
            with_reducible rfl
          rotate_left
          · simp only [Act.put, List.setIfInBounds_toArray, List.set_cons_zero, List.set_cons_succ, i64_w, i32_w]
            rfl
          refine pure_ (i := 5) (N := some 95) (v := ?_) (a' := ?_) #[true, true, true, true, true, true, false, true, false, false] rfl rfl (any_of HT_.out (by kernel_rfl)) (fun _ _ _ h => h) (Or.inl ⟨by rfl, ?_⟩) ?_ ?_
          rotate_left
          · intro w'
            go_simp
            with_reducible rfl
          rotate_left
          · simp only [Act.put, List.setIfInBounds_toArray, List.set_cons_zero, List.set_cons_succ, i64_w, i32_w]
            rfl
          refine pure_ (i := 6) (N := some 96) (v := ?_) (a' := ?_) #[true, true, true, true, true, true, true, true, false, false] rfl rfl (any_of HT_.out (by kernel_rfl)) (fun _ _ _ h => h) (Or.inl ⟨by rfl, ?_⟩) ?_ ?_
          rotate_left
          · intro w'
            go_simp
            with_reducible rfl
          rotate_left
          · simp only [Act.put, List.setIfInBounds_toArray, List.set_cons_zero, List.set_cons_succ, i64_w, i32_w]
            rfl
          exact norm_ (by simp only [putAll, Act.put, List.setIfInBounds_toArray, List.set_cons_zero, List.set_cons_succ]) (hCont (wa.heap.size, Ac, cc, Ax, cx) _ ⟨(bt (bt (bt (Below.refl _ _).drew hba) (below1 _ _)) hbb), (zbox_new _).below hbb, ((bt (Below.refl wE.heap.size wE).drew hba)).size, r_low hRx ((bt (bt (Below.refl wE.heap.size wE).drew hba) (below1 wa _))).size (by rw [alloc_size]; exact Nat.lt_succ_self _)⟩)
      · skip
        refine value_ (w1 := ?_) (v := ?_) (by rfl) rfl ?_ ?_
        rotate_left 2
        · go_simp
          constructor
          · rfl
          · rfl
        refine hK.out _ _ ⟨pw_cell_below (below1 _ _) (hHeld.1), pw_cell_below (below1 _ _) (hHeld.2.1), pw_cell_below (below1 _ _) (hHeld.2.2.1), pw_cell_below (below1 _ _) (hHeld.2.2.2.1), pw_cell_below (below1 _ _) (hHeld.2.2.2.2)⟩ (fun hHeld => ?_)
        clear hK K
        refine norm_ (a' := ?_) ?_ ?_
        rotate_left
        · show Act.put _ (some 15) _ = _
          simp only [Act.put, List.setIfInBounds_toArray, List.set_cons_zero, List.set_cons_succ, i64_w, i32_w]
          rfl
        refine one_ (i := 1) (N := some 92) #[true, true, true, false, false, false, false, true, false, false] rfl rfl (one_of HT_.out (by kernel_rfl)) (by decide) (fun K hK => ?_)
        refine goes_ Try.func10 (by kernel_rfl) rfl #[.agg #[.int .i64 nb, .slice A_u (lower l nb).length c_u]] (by rfl) rfl rfl (by simp only [List.map_toArray, List.map_cons, List.map_nil]; first | rfl | (refine congrArg List.toArray (congr (congrArg List.cons ?_) (congrArg (fun z => [z]) ?_)) <;> first | rfl | go_simp)) ?_
        with_reducible refine (copy_C (lower l nb) nb A_u c_u _ (Kd.C_below C_u.out (bt (bt (bt (bt (bt (bt (bt (bt (bt (bt N_w5.out N_w6.out) N_w7.out) N_w8.out) N_w9.out) N_wA.out) N_wB.out) N_wC.out) N_wD.out) N_wE.out) (below1 _ _).drew)) hl_u HRm).mono ?_
        rintro e wa ⟨Ac, cc, rfl, hcc, hCc, hba⟩
        refine ⟨_, rfl, ?_⟩
        refine hK.out _ _ ⟨pw_cell_below hba (hHeld.1), pw_cell_below hba (hHeld.2.1), pw_cell_below hba (hHeld.2.2.1), pw_cell_below hba (hHeld.2.2.2.1), pw_cell_below hba (hHeld.2.2.2.2)⟩ (fun hHeld => ?_)
        clear hK K
        refine norm_ (a' := ?_) ?_ ?_
        rotate_left
        · show Act.put _ (some 92) _ = _
          simp only [Act.put, List.setIfInBounds_toArray, List.set_cons_zero, List.set_cons_succ, i64_w, i32_w]
          rfl
        refine one_ (i := 3) (N := some 94) #[true, true, true, true, false, false, false, true, false, false] rfl rfl (one_of HT_.out (by kernel_rfl)) (by decide) (fun K hK => ?_)
        refine goes_ Try.func16 (by kernel_rfl) rfl #[.agg #[.int .i64 nb, .slice Ac (lower l nb).length cc], .agg #[.int .i64 nb, .int .i64 nx, .slice A_d (since l nb).length c_d]] (by rfl) rfl rfl (by simp only [List.map_toArray, List.map_cons, List.map_nil]; first | rfl | (refine congrArg List.toArray (congr (congrArg List.cons ?_) (congrArg (fun z => [z]) ?_)) <;> first | rfl | go_simp)) ?_
        with_reducible refine (apply_R (lower l nb) (since l nb) l nb nx Ac A_d cc c_d _ (Kd.C_below hCc (Below.refl _ _)) hcc HRm (Kd.C_below C_d.out (bt (bt (bt (bt (bt (bt (bt N_w8.out N_w9.out) N_wA.out) N_wB.out) N_wC.out) N_wD.out) N_wE.out) (bt (below1 _ _).drew hba))) hl_d HR_d (bytes_since rt nb).1 (bytes_since rt nb).2 (mrg_all rt nb)).mono ?_
        rintro e wb ⟨Ax, cx, rfl, hcx, hRx, hbb⟩
        refine ⟨_, rfl, ?_⟩
        refine hK.out _ _ ⟨pw_cell_below hbb (hHeld.1), pw_cell_below hbb (hHeld.2.1), pw_cell_below hbb (hHeld.2.2.1), pw_cell_below hbb (hHeld.2.2.2.1), pw_cell_below hbb (hHeld.2.2.2.2)⟩ (fun hHeld => ?_)
        clear hK K
        refine norm_ (a' := ?_) ?_ ?_
        rotate_left
        · show Act.put _ (some 94) _ = _
          simp only [Act.put, List.setIfInBounds_toArray, List.set_cons_zero, List.set_cons_succ, i64_w, i32_w]
          rfl
        refine pure_ (i := 4) (N := some 90) (v := ?_) (a' := ?_) #[true, true, true, true, true, false, false, true, false, false] rfl rfl (any_of HT_.out (by kernel_rfl)) (fun _ _ _ h => h) (Or.inl ⟨by rfl, ?_⟩) ?_ ?_
        rotate_left
        · intro w'
          go_simp
          with_reducible rfl
        rotate_left
        · simp only [Act.put, List.setIfInBounds_toArray, List.set_cons_zero, List.set_cons_succ, i64_w, i32_w]
          rfl
        refine pure_ (i := 5) (N := some 95) (v := ?_) (a' := ?_) #[true, true, true, true, true, true, false, true, false, false] rfl rfl (any_of HT_.out (by kernel_rfl)) (fun _ _ _ h => h) (Or.inl ⟨by rfl, ?_⟩) ?_ ?_
        rotate_left
        · intro w'
          go_simp
          with_reducible rfl
        rotate_left
        · simp only [Act.put, List.setIfInBounds_toArray, List.set_cons_zero, List.set_cons_succ, i64_w, i32_w]
          rfl
        refine pure_ (i := 6) (N := some 96) (v := ?_) (a' := ?_) #[true, true, true, true, true, true, true, true, false, false] rfl rfl (any_of HT_.out (by kernel_rfl)) (fun _ _ _ h => h) (Or.inl ⟨by rfl, ?_⟩) ?_ ?_
        rotate_left
        · intro w'
          go_simp
          with_reducible rfl
        rotate_left
        · simp only [Act.put, List.setIfInBounds_toArray, List.set_cons_zero, List.set_cons_succ, i64_w, i32_w]
          rfl
        exact norm_ (by simp only [putAll, Act.put, List.setIfInBounds_toArray, List.set_cons_zero, List.set_cons_succ]) (hCont (wE.heap.size, Ac, cc, Ax, cx) _ ⟨(bt (bt (below1 _ _).drew hba) hbb), (((zbox_new wE).below (Below.refl _ _).drew).below hba).below hbb, Nat.le_refl _, r_low hRx (show wE.heap.size ≤ wa.heap.size from Below.size (bt (below1 wE (.cells #[.int .i64 0, .slice none 0 0] 24)).drew hba)) (Zbox.lt (((zbox_new wE).below (Below.refl _ _).drew).below hba))⟩)
    rintro ⟨g15, Ac15, cc15, A_15, c_15⟩ wx15 ⟨hF1, hF2, hF3, hF4⟩
    have k0 := hF2.c0
    have k1 := hF2.c1
    have kf := hF2.fr
    refine norm_ (a' := ?_) ?_ ?_
    rotate_left
    · simp only [putAll, Act.put, List.setIfInBounds_toArray, List.set_cons_zero, List.set_cons_succ]
      rfl
    refine last_ (i := 8) (N := none) #[true, true, true, true, true, true, true, true, true, false] rfl rfl (one_of HT_.out (by kernel_rfl)) (by decide) (fun K hK => ?_)
    refine skip_ (w1 := ?_) (by rfl) rfl ?_ ?_
    rotate_left
    · go_simp
      rfl
    refine hK.out _ _ ?_
    clear hK K
    refine pure_ (i := 9) (N := some 10) (v := ?_) (a' := ?_) #[true, true, true, true, true, true, true, true, true, true] rfl rfl (any_of HT_.out (by kernel_rfl)) (fun _ _ _ h => h) (Or.inl ⟨by rfl, ?_⟩) ?_ ?_
    rotate_left
    · intro w'
      go_simp
      with_reducible rfl
    rotate_left
    · simp only [Act.put, List.setIfInBounds_toArray, List.set_cons_zero, List.set_cons_succ, i64_w, i32_w]
      rfl
    refine done_ (done_of HT_.out (by kernel_rfl)) ?_
    obtain ⟨hs1, hs2, hs3, hs4, hs5⟩ := stored nx hF1 hF2 hF3 hF4
    generalize ((wx15.setCell ⟨g15, 0, none⟩ (.int .i64 nx)).setCell ⟨g15, 1, none⟩ (.slice A_15 l.length c_15)) = wF at *
    clear hF1 hF2 hF3 hF4 k0 k1 kf
    have N_wF := Lib.hid hs1
    have C_x := Lib.hid hs5
    have hl_x := hs4
    have B_x_0 := Lib.hid hs2
    have B_x_1 := Lib.hid hs3
    clear hs1 hs2 hs3 hs4 hs5
    go_upto_region 16 with fail
    have hbs16 := bytes_since rtn nb
    have hmg16 := mrg_all rtn nb
    rw [lower_lower hmn] at hbs16 hmg16
    refine start_ (n := 10) (S := fun w' => w'.cell? ⟨w4.heap.size, 0, none⟩ = some (.int .i64 nb) ∧ w'.cell? ⟨w4.heap.size, 1, none⟩ = some (.slice A_u (lower l nb).length c_u) ∧ w'.cell? ⟨w9.heap.size, 0, none⟩ = some (.int .i64 nb) ∧ w'.cell? ⟨w9.heap.size, 1, none⟩ = some (.int .i64 ma) ∧ w'.cell? ⟨w9.heap.size, 2, none⟩ = some (.slice A_o (since (lower l ma) nb).length c_o)) (ds := [8]) #[false, false, false, false, false, false, false, false, false, false] (by kernel_rfl) rfl rfl ⟨pw_cell_below (bt (bt (bt (bt (bt (bt (bt (bt (bt (bt N_w6.out N_w7.out) N_w8.out) N_w9.out) N_wA.out) N_wB.out) N_wC.out) N_wD.out) N_wE.out) N_wF.out) (Below.refl _ _).drew) B_u_0.out, pw_cell_below (bt (bt (bt (bt (bt (bt (bt (bt (bt (bt N_w6.out N_w7.out) N_w8.out) N_w9.out) N_wA.out) N_wB.out) N_wC.out) N_wD.out) N_wE.out) N_wF.out) (Below.refl _ _).drew) B_u_1.out, pw_cell_below (bt (bt (bt (bt (bt N_wB.out N_wC.out) N_wD.out) N_wE.out) N_wF.out) (Below.refl _ _).drew) B_o_0.out, pw_cell_below (bt (bt (bt (bt (bt N_wB.out N_wC.out) N_wD.out) N_wE.out) N_wF.out) (Below.refl _ _).drew) B_o_1.out, pw_cell_below (bt (bt (bt (bt (bt N_wB.out N_wC.out) N_wD.out) N_wE.out) N_wF.out) (Below.refl _ _).drew) B_o_2.out⟩ (fun hHeld => ?_)
    refine with_tabW fW.tab16 fW.bits16 (fun HT_ HW_ => ?_)
    refine take_ (i := 0) (N := some 98) (v := ?_) (a' := ?_) #[true, false, false, false, false, false, false, false, false, false] rfl rfl (take_ofW HT_.out HW_.out (by kernel_rfl)) (fun _ _ _ h => h) (Or.inl ⟨by rfl, ?_⟩) hHeld ?_ ?_
    rotate_left
    · rintro w' ⟨s0, s1, s2, s3, s4⟩
      go_simp
      with_reducible rfl
    rotate_left
    · simp only [Act.put, List.setIfInBounds_toArray, List.set_cons_zero, List.set_cons_succ, i64_w, i32_w]
      rfl
    refine take_ (i := 2) (N := some 100) (v := ?_) (a' := ?_) #[true, false, true, false, false, false, false, false, false, false] rfl rfl (take_ofW HT_.out HW_.out (by kernel_rfl)) (fun _ _ _ h => h) (Or.inl ⟨by rfl, ?_⟩) hHeld ?_ ?_
    rotate_left
    · rintro w' ⟨s0, s1, s2, s3, s4⟩
      go_simp
      with_reducible rfl
    rotate_left
    · simp only [Act.put, List.setIfInBounds_toArray, List.set_cons_zero, List.set_cons_succ, i64_w, i32_w]
      rfl
    refine join_ (σ := Nat × Option Addr × Nat × Option Addr × Nat) 2 #[true, true, true, true, true, true, true, true, false, false] (fun s => [(99, .agg #[.int .i64 nb, .slice s.2.1 (lower l nb).length s.2.2.1]), (101, .tuple #[.agg #[.int .i64 ma, .slice s.2.2.2.1 (lower l ma).length s.2.2.2.2], .int .i64 0]), (97, .tuple #[.agg #[.int .i64 ma, .slice s.2.2.2.1 (lower l ma).length s.2.2.2.2], .int .i64 0]), (102, .agg #[.int .i64 ma, .slice s.2.2.2.1 (lower l ma).length s.2.2.2.2]), (103, .int .i64 0), (16, .pointer (some ⟨s.1, 0, none⟩))]) (fun s w' => (Below wF.heap.size wF w' ∧ Zbox w' s.1 ∧ wF.heap.size ≤ s.1 ∧ kVn.R 48 w' wF.heap.size (fun k => k ≠ s.1) (.slice s.2.2.2.1 (lower l ma).length s.2.2.2.2) (lower l ma))) ?_ ?_
    rotate_left
    · intro hCont
      refine two_ (i := 1) (j := 7) (Ni := some 99) (Nj := some 16) #[true, true, true, false, false, false, false, false, false, false] #[true, false, true, false, false, false, false, true, false, false] rfl rfl rfl rfl (two_of HT_.out (by kernel_rfl)) (by decide) (by decide) (fun K hK => ?_) (fun K hK => ?_)
      · skip
        refine goes_ Try.func10 (by kernel_rfl) rfl #[.agg #[.int .i64 nb, .slice A_u (lower l nb).length c_u]] (by rfl) rfl rfl (by simp only [List.map_toArray, List.map_cons, List.map_nil]; first | rfl | (refine congrArg List.toArray (congr (congrArg List.cons ?_) (congrArg (fun z => [z]) ?_)) <;> first | rfl | go_simp)) ?_
        with_reducible refine (copy_C (lower l nb) nb A_u c_u _ (Kd.C_below C_u.out (bt (bt (bt (bt (bt (bt (bt (bt (bt (bt (bt N_w5.out N_w6.out) N_w7.out) N_w8.out) N_w9.out) N_wA.out) N_wB.out) N_wC.out) N_wD.out) N_wE.out) N_wF.out) (Below.refl _ _).drew)) hl_u HRm).mono ?_
        rintro e wa ⟨Ac, cc, rfl, hcc, hCc, hba⟩
        refine ⟨_, rfl, ?_⟩
        refine hK.out _ _ ⟨pw_cell_below hba (hHeld.1), pw_cell_below hba (hHeld.2.1), pw_cell_below hba (hHeld.2.2.1), pw_cell_below hba (hHeld.2.2.2.1), pw_cell_below hba (hHeld.2.2.2.2)⟩ (fun hHeld => ?_)
        clear hK K
        refine norm_ (a' := ?_) ?_ ?_
        rotate_left
        · show Act.put _ (some 99) _ = _
          simp only [Act.put, List.setIfInBounds_toArray, List.set_cons_zero, List.set_cons_succ, i64_w, i32_w]
          rfl
        refine two_ (i := 3) (j := 7) (Ni := some 101) (Nj := some 16) #[true, true, true, true, false, false, false, false, false, false] #[true, true, true, false, false, false, false, true, false, false] rfl rfl rfl rfl (two_of HT_.out (by kernel_rfl)) (by decide) (by decide) (fun K hK => ?_) (fun K hK => ?_)
        · skip
          refine goes_ Try.func16 (by kernel_rfl) rfl #[.agg #[.int .i64 nb, .slice Ac (lower l nb).length cc], .agg #[.int .i64 nb, .int .i64 ma, .slice A_o (since (lower l ma) nb).length c_o]] (by rfl) rfl rfl (by simp only [List.map_toArray, List.map_cons, List.map_nil]; first | rfl | (refine congrArg List.toArray (congr (congrArg List.cons ?_) (congrArg (fun z => [z]) ?_)) <;> first | rfl | go_simp)) ?_
          with_reducible refine (apply_R (lower l nb) (since (lower l ma) nb) (lower l ma) nb ma Ac A_o cc c_o _ (Kd.C_below hCc (Below.refl _ _)) hcc HRm (Kd.C_below C_o.out (bt (bt (bt (bt (bt (bt N_wA.out N_wB.out) N_wC.out) N_wD.out) N_wE.out) N_wF.out) (bt (Below.refl _ _).drew hba))) hl_o HR_o hbs16.1 hbs16.2 hmg16).mono ?_
          rintro e wb ⟨Ax, cx, rfl, hcx, hRx, hbb⟩
          refine ⟨_, rfl, ?_⟩
          refine hK.out _ _ ⟨pw_cell_below hbb (hHeld.1), pw_cell_below hbb (hHeld.2.1), pw_cell_below hbb (hHeld.2.2.1), pw_cell_below hbb (hHeld.2.2.2.1), pw_cell_below hbb (hHeld.2.2.2.2)⟩ (fun hHeld => ?_)
          clear hK K
          refine norm_ (a' := ?_) ?_ ?_
          rotate_left
          · show Act.put _ (some 101) _ = _
            simp only [Act.put, List.setIfInBounds_toArray, List.set_cons_zero, List.set_cons_succ, i64_w, i32_w]
            rfl
          refine pure_ (i := 4) (N := some 97) (v := ?_) (a' := ?_) #[true, true, true, true, true, false, false, false, false, false] rfl rfl (any_of HT_.out (by kernel_rfl)) (fun _ _ _ h => h) (Or.inl ⟨by rfl, ?_⟩) ?_ ?_
          rotate_left
          · intro w'
            go_simp
            with_reducible rfl
          rotate_left
          · simp only [Act.put, List.setIfInBounds_toArray, List.set_cons_zero, List.set_cons_succ, i64_w, i32_w]
            rfl
          refine pure_ (i := 5) (N := some 102) (v := ?_) (a' := ?_) #[true, true, true, true, true, true, false, false, false, false] rfl rfl (any_of HT_.out (by kernel_rfl)) (fun _ _ _ h => h) (Or.inl ⟨by rfl, ?_⟩) ?_ ?_
          rotate_left
          · intro w'
            go_simp
            with_reducible rfl
          rotate_left
          · simp only [Act.put, List.setIfInBounds_toArray, List.set_cons_zero, List.set_cons_succ, i64_w, i32_w]
            rfl
          refine pure_ (i := 6) (N := some 103) (v := ?_) (a' := ?_) #[true, true, true, true, true, true, true, false, false, false] rfl rfl (any_of HT_.out (by kernel_rfl)) (fun _ _ _ h => h) (Or.inl ⟨by rfl, ?_⟩) ?_ ?_
          rotate_left
          · intro w'
            go_simp
            with_reducible rfl
          rotate_left
          · simp only [Act.put, List.setIfInBounds_toArray, List.set_cons_zero, List.set_cons_succ, i64_w, i32_w]
            rfl
          refine one_ (i := 7) (N := some 16) #[true, true, true, true, true, true, true, true, false, false] rfl rfl (one_of HT_.out (by kernel_rfl)) (by decide) (fun K hK => ?_)
          refine value_ (w1 := ?_) (v := ?_) (by rfl) rfl ?_ ?_
          rotate_left 2
          · go_simp
            constructor
            · rfl
            · rfl
          refine hK.out _ _ ⟨pw_cell_below (below1 _ _) (hHeld.1), pw_cell_below (below1 _ _) (hHeld.2.1), pw_cell_below (below1 _ _) (hHeld.2.2.1), pw_cell_below (below1 _ _) (hHeld.2.2.2.1), pw_cell_below (below1 _ _) (hHeld.2.2.2.2)⟩ (fun hHeld => ?_)
          clear hK K
          refine norm_ (a' := ?_) ?_ ?_
          rotate_left
          · show Act.put _ (some 16) _ = _
            simp only [Act.put, List.setIfInBounds_toArray, List.set_cons_zero, List.set_cons_succ, i64_w, i32_w]
            rfl
          exact norm_ (by simp only [putAll, Act.put, List.setIfInBounds_toArray, List.set_cons_zero, List.set_cons_succ]) (hCont (wb.heap.size, Ac, cc, Ax, cx) _ ⟨(bt (bt (bt (Below.refl _ _).drew hba) hbb) (below1 _ _)), zbox_new _, ((bt (bt (Below.refl wF.heap.size wF).drew hba) hbb)).size, r_new hRx (show wF.heap.size ≤ wa.heap.size from ((bt (Below.refl wF.heap.size wF).drew hba)).size) _⟩)
        · skip
          refine value_ (w1 := ?_) (v := ?_) (by rfl) rfl ?_ ?_
          rotate_left 2
          · go_simp
            constructor
            · rfl
            · rfl
          refine hK.out _ _ ⟨pw_cell_below (below1 _ _) (hHeld.1), pw_cell_below (below1 _ _) (hHeld.2.1), pw_cell_below (below1 _ _) (hHeld.2.2.1), pw_cell_below (below1 _ _) (hHeld.2.2.2.1), pw_cell_below (below1 _ _) (hHeld.2.2.2.2)⟩ (fun hHeld => ?_)
          clear hK K
          refine norm_ (a' := ?_) ?_ ?_
          rotate_left
          · show Act.put _ (some 16) _ = _
            simp only [Act.put, List.setIfInBounds_toArray, List.set_cons_zero, List.set_cons_succ, i64_w, i32_w]
            rfl
          refine one_ (i := 3) (N := some 101) #[true, true, true, true, false, false, false, true, false, false] rfl rfl (one_of HT_.out (by kernel_rfl)) (by decide) (fun K hK => ?_)
          refine goes_ Try.func16 (by kernel_rfl) rfl #[.agg #[.int .i64 nb, .slice Ac (lower l nb).length cc], .agg #[.int .i64 nb, .int .i64 ma, .slice A_o (since (lower l ma) nb).length c_o]] (by rfl) rfl rfl (by simp only [List.map_toArray, List.map_cons, List.map_nil]; first | rfl | (refine congrArg List.toArray (congr (congrArg List.cons ?_) (congrArg (fun z => [z]) ?_)) <;> first | rfl | go_simp)) ?_
          with_reducible refine (apply_R (lower l nb) (since (lower l ma) nb) (lower l ma) nb ma Ac A_o cc c_o _ (Kd.C_below hCc (below1 _ _)) hcc HRm (Kd.C_below C_o.out (bt (bt (bt (bt (bt (bt N_wA.out N_wB.out) N_wC.out) N_wD.out) N_wE.out) N_wF.out) (bt (bt (Below.refl _ _).drew hba) (below1 _ _)))) hl_o HR_o hbs16.1 hbs16.2 hmg16).mono ?_
          rintro e wb ⟨Ax, cx, rfl, hcx, hRx, hbb⟩
          refine ⟨_, rfl, ?_⟩
          refine hK.out _ _ ⟨pw_cell_below hbb (hHeld.1), pw_cell_below hbb (hHeld.2.1), pw_cell_below hbb (hHeld.2.2.1), pw_cell_below hbb (hHeld.2.2.2.1), pw_cell_below hbb (hHeld.2.2.2.2)⟩ (fun hHeld => ?_)
          clear hK K
          refine norm_ (a' := ?_) ?_ ?_
          rotate_left
          · show Act.put _ (some 101) _ = _
            simp only [Act.put, List.setIfInBounds_toArray, List.set_cons_zero, List.set_cons_succ, i64_w, i32_w]
            rfl
          refine pure_ (i := 4) (N := some 97) (v := ?_) (a' := ?_) #[true, true, true, true, true, false, false, true, false, false] rfl rfl (any_of HT_.out (by kernel_rfl)) (fun _ _ _ h => h) (Or.inl ⟨by rfl, ?_⟩) ?_ ?_
          rotate_left
          · intro w'
            go_simp
            with_reducible rfl
          rotate_left
          · simp only [Act.put, List.setIfInBounds_toArray, List.set_cons_zero, List.set_cons_succ, i64_w, i32_w]
            rfl
          refine pure_ (i := 5) (N := some 102) (v := ?_) (a' := ?_) #[true, true, true, true, true, true, false, true, false, false] rfl rfl (any_of HT_.out (by kernel_rfl)) (fun _ _ _ h => h) (Or.inl ⟨by rfl, ?_⟩) ?_ ?_
          rotate_left
          · intro w'
            go_simp
            with_reducible rfl
          rotate_left
          · simp only [Act.put, List.setIfInBounds_toArray, List.set_cons_zero, List.set_cons_succ, i64_w, i32_w]
            rfl
          refine pure_ (i := 6) (N := some 103) (v := ?_) (a' := ?_) #[true, true, true, true, true, true, true, true, false, false] rfl rfl (any_of HT_.out (by kernel_rfl)) (fun _ _ _ h => h) (Or.inl ⟨by rfl, ?_⟩) ?_ ?_
          rotate_left
          · intro w'
            go_simp
            with_reducible rfl
          rotate_left
          · simp only [Act.put, List.setIfInBounds_toArray, List.set_cons_zero, List.set_cons_succ, i64_w, i32_w]
            rfl
          exact norm_ (by simp only [putAll, Act.put, List.setIfInBounds_toArray, List.set_cons_zero, List.set_cons_succ]) (hCont (wa.heap.size, Ac, cc, Ax, cx) _ ⟨(bt (bt (bt (Below.refl _ _).drew hba) (below1 _ _)) hbb), (zbox_new _).below hbb, ((bt (Below.refl wF.heap.size wF).drew hba)).size, r_low hRx ((bt (bt (Below.refl wF.heap.size wF).drew hba) (below1 wa _))).size (by rw [alloc_size]; exact Nat.lt_succ_self _)⟩)
      · skip
        refine value_ (w1 := ?_) (v := ?_) (by rfl) rfl ?_ ?_
        rotate_left 2
        · go_simp
          constructor
          · rfl
          · rfl
        refine hK.out _ _ ⟨pw_cell_below (below1 _ _) (hHeld.1), pw_cell_below (below1 _ _) (hHeld.2.1), pw_cell_below (below1 _ _) (hHeld.2.2.1), pw_cell_below (below1 _ _) (hHeld.2.2.2.1), pw_cell_below (below1 _ _) (hHeld.2.2.2.2)⟩ (fun hHeld => ?_)
        clear hK K
        refine norm_ (a' := ?_) ?_ ?_
        rotate_left
        · show Act.put _ (some 16) _ = _
          simp only [Act.put, List.setIfInBounds_toArray, List.set_cons_zero, List.set_cons_succ, i64_w, i32_w]
          rfl
        refine one_ (i := 1) (N := some 99) #[true, true, true, false, false, false, false, true, false, false] rfl rfl (one_of HT_.out (by kernel_rfl)) (by decide) (fun K hK => ?_)
        refine goes_ Try.func10 (by kernel_rfl) rfl #[.agg #[.int .i64 nb, .slice A_u (lower l nb).length c_u]] (by rfl) rfl rfl (by simp only [List.map_toArray, List.map_cons, List.map_nil]; first | rfl | (refine congrArg List.toArray (congr (congrArg List.cons ?_) (congrArg (fun z => [z]) ?_)) <;> first | rfl | go_simp)) ?_
        with_reducible refine (copy_C (lower l nb) nb A_u c_u _ (Kd.C_below C_u.out (bt (bt (bt (bt (bt (bt (bt (bt (bt (bt (bt N_w5.out N_w6.out) N_w7.out) N_w8.out) N_w9.out) N_wA.out) N_wB.out) N_wC.out) N_wD.out) N_wE.out) N_wF.out) (below1 _ _).drew)) hl_u HRm).mono ?_
        rintro e wa ⟨Ac, cc, rfl, hcc, hCc, hba⟩
        refine ⟨_, rfl, ?_⟩
        refine hK.out _ _ ⟨pw_cell_below hba (hHeld.1), pw_cell_below hba (hHeld.2.1), pw_cell_below hba (hHeld.2.2.1), pw_cell_below hba (hHeld.2.2.2.1), pw_cell_below hba (hHeld.2.2.2.2)⟩ (fun hHeld => ?_)
        clear hK K
        refine norm_ (a' := ?_) ?_ ?_
        rotate_left
        · show Act.put _ (some 99) _ = _
          simp only [Act.put, List.setIfInBounds_toArray, List.set_cons_zero, List.set_cons_succ, i64_w, i32_w]
          rfl
        refine one_ (i := 3) (N := some 101) #[true, true, true, true, false, false, false, true, false, false] rfl rfl (one_of HT_.out (by kernel_rfl)) (by decide) (fun K hK => ?_)
        refine goes_ Try.func16 (by kernel_rfl) rfl #[.agg #[.int .i64 nb, .slice Ac (lower l nb).length cc], .agg #[.int .i64 nb, .int .i64 ma, .slice A_o (since (lower l ma) nb).length c_o]] (by rfl) rfl rfl (by simp only [List.map_toArray, List.map_cons, List.map_nil]; first | rfl | (refine congrArg List.toArray (congr (congrArg List.cons ?_) (congrArg (fun z => [z]) ?_)) <;> first | rfl | go_simp)) ?_
        with_reducible refine (apply_R (lower l nb) (since (lower l ma) nb) (lower l ma) nb ma Ac A_o cc c_o _ (Kd.C_below hCc (Below.refl _ _)) hcc HRm (Kd.C_below C_o.out (bt (bt (bt (bt (bt (bt N_wA.out N_wB.out) N_wC.out) N_wD.out) N_wE.out) N_wF.out) (bt (below1 _ _).drew hba))) hl_o HR_o hbs16.1 hbs16.2 hmg16).mono ?_
        rintro e wb ⟨Ax, cx, rfl, hcx, hRx, hbb⟩
        refine ⟨_, rfl, ?_⟩
        refine hK.out _ _ ⟨pw_cell_below hbb (hHeld.1), pw_cell_below hbb (hHeld.2.1), pw_cell_below hbb (hHeld.2.2.1), pw_cell_below hbb (hHeld.2.2.2.1), pw_cell_below hbb (hHeld.2.2.2.2)⟩ (fun hHeld => ?_)
        clear hK K
        refine norm_ (a' := ?_) ?_ ?_
        rotate_left
        · show Act.put _ (some 101) _ = _
          simp only [Act.put, List.setIfInBounds_toArray, List.set_cons_zero, List.set_cons_succ, i64_w, i32_w]
          rfl
        refine pure_ (i := 4) (N := some 97) (v := ?_) (a' := ?_) #[true, true, true, true, true, false, false, true, false, false] rfl rfl (any_of HT_.out (by kernel_rfl)) (fun _ _ _ h => h) (Or.inl ⟨by rfl, ?_⟩) ?_ ?_
        rotate_left
        · intro w'
          go_simp
          with_reducible rfl
        rotate_left
        · simp only [Act.put, List.setIfInBounds_toArray, List.set_cons_zero, List.set_cons_succ, i64_w, i32_w]
          rfl
        refine pure_ (i := 5) (N := some 102) (v := ?_) (a' := ?_) #[true, true, true, true, true, true, false, true, false, false] rfl rfl (any_of HT_.out (by kernel_rfl)) (fun _ _ _ h => h) (Or.inl ⟨by rfl, ?_⟩) ?_ ?_
        rotate_left
        · intro w'
          go_simp
          with_reducible rfl
        rotate_left
        · simp only [Act.put, List.setIfInBounds_toArray, List.set_cons_zero, List.set_cons_succ, i64_w, i32_w]
          rfl
        refine pure_ (i := 6) (N := some 103) (v := ?_) (a' := ?_) #[true, true, true, true, true, true, true, true, false, false] rfl rfl (any_of HT_.out (by kernel_rfl)) (fun _ _ _ h => h) (Or.inl ⟨by rfl, ?_⟩) ?_ ?_
        rotate_left
        · intro w'
          go_simp
          with_reducible rfl
        rotate_left
        · simp only [Act.put, List.setIfInBounds_toArray, List.set_cons_zero, List.set_cons_succ, i64_w, i32_w]
          rfl
        exact norm_ (by simp only [putAll, Act.put, List.setIfInBounds_toArray, List.set_cons_zero, List.set_cons_succ]) (hCont (wF.heap.size, Ac, cc, Ax, cx) _ ⟨(bt (bt (below1 _ _).drew hba) hbb), (((zbox_new wF).below (Below.refl _ _).drew).below hba).below hbb, Nat.le_refl _, r_low hRx (show wF.heap.size ≤ wa.heap.size from Below.size (bt (below1 wF (.cells #[.int .i64 0, .slice none 0 0] 24)).drew hba)) (Zbox.lt (((zbox_new wF).below (Below.refl _ _).drew).below hba))⟩)
    rintro ⟨g16, Ac16, cc16, A_16, c_16⟩ wx16 ⟨hF1, hF2, hF3, hF4⟩
    have k0 := hF2.c0
    have k1 := hF2.c1
    have kf := hF2.fr
    refine norm_ (a' := ?_) ?_ ?_
    rotate_left
    · simp only [putAll, Act.put, List.setIfInBounds_toArray, List.set_cons_zero, List.set_cons_succ]
      rfl
    refine last_ (i := 8) (N := none) #[true, true, true, true, true, true, true, true, true, false] rfl rfl (one_of HT_.out (by kernel_rfl)) (by decide) (fun K hK => ?_)
    refine skip_ (w1 := ?_) (by rfl) rfl ?_ ?_
    rotate_left
    · go_simp
      rfl
    refine hK.out _ _ ?_
    clear hK K
    refine pure_ (i := 9) (N := some 12) (v := ?_) (a' := ?_) #[true, true, true, true, true, true, true, true, true, true] rfl rfl (any_of HT_.out (by kernel_rfl)) (fun _ _ _ h => h) (Or.inl ⟨by rfl, ?_⟩) ?_ ?_
    rotate_left
    · intro w'
      go_simp
      with_reducible rfl
    rotate_left
    · simp only [Act.put, List.setIfInBounds_toArray, List.set_cons_zero, List.set_cons_succ, i64_w, i32_w]
      rfl
    refine done_ (done_of HT_.out (by kernel_rfl)) ?_
    obtain ⟨hs1, hs2, hs3, hs4, hs5⟩ := stored ma hF1 hF2 hF3 hF4
    generalize ((wx16.setCell ⟨g16, 0, none⟩ (.int .i64 ma)).setCell ⟨g16, 1, none⟩ (.slice A_16 (lower l ma).length c_16)) = wG at *
    clear hF1 hF2 hF3 hF4 k0 k1 kf
    have N_wG := Lib.hid hs1
    have C_y := Lib.hid hs5
    have hl_y := hs4
    have B_y_0 := Lib.hid hs2
    have B_y_1 := Lib.hid hs3
    clear hs1 hs2 hs3 hs4 hs5
    have V_x_0 : World.cell? wG ⟨g15, 0, none⟩ = some (.int .i64 nx) := pw_cell_below N_wG.out B_x_0.out
    have V_x_1 : World.cell? wG ⟨g15, 1, none⟩ = some (.slice A_15 l.length c_15) := pw_cell_below N_wG.out B_x_1.out
    have V_v_0 : World.cell? wG ⟨w.heap.size, 0, none⟩ = some (.int .i64 nx) := pw_cell_below (bt (bt (bt (bt (bt (bt (bt (bt (bt (bt (bt (bt (bt (bt N_w2.out N_w3.out) N_w4.out) N_w5.out) N_w6.out) N_w7.out) N_w8.out) N_w9.out) N_wA.out) N_wB.out) N_wC.out) N_wD.out) N_wE.out) N_wF.out) N_wG.out) B_v_0.out
    have V_v_1 : World.cell? wG ⟨w.heap.size, 1, none⟩ = some (.slice A l.length c) := pw_cell_below (bt (bt (bt (bt (bt (bt (bt (bt (bt (bt (bt (bt (bt (bt N_w2.out N_w3.out) N_w4.out) N_w5.out) N_w6.out) N_w7.out) N_w8.out) N_w9.out) N_wA.out) N_wB.out) N_wC.out) N_wD.out) N_wE.out) N_wF.out) N_wG.out) B_v_1.out
    have hbs19 := bytes_since rt ma
    have hmg19 := mrg_all rt ma
    go_upto_region 22 with (first
      | (go_at_call 18; (with_reducible refine (same_C l nx A_15 A c_15 c _ (Kd.C_below C_x.out N_wG.out) hl_x (Kd.C_below C_l.out (bt (bt (bt (bt (bt (bt (bt (bt (bt (bt (bt (bt (bt (bt (bt N_w1.out N_w2.out) N_w3.out) N_w4.out) N_w5.out) N_w6.out) N_w7.out) N_w8.out) N_w9.out) N_wA.out) N_wB.out) N_wC.out) N_wD.out) N_wE.out) N_wF.out) N_wG.out)) hl).mono ?_; rintro e wH ⟨rfl, hb⟩; clear V_x_0 V_x_1 V_v_0 V_v_1; have N_wH := Lib.hid (bt (x := wG) (Below.refl _ _) hb); have V_y_0 : World.cell? wH ⟨g16, 0, none⟩ = some (.int .i64 ma) := pw_cell_below N_wH.out B_y_0.out; have V_y_1 : World.cell? wH ⟨g16, 1, none⟩ = some (.slice A_16 (lower l ma).length c_16) := pw_cell_below N_wH.out B_y_1.out; have V_k_0 : World.cell? wH ⟨w5.heap.size, 0, none⟩ = some (.int .i64 ma) := pw_cell_below (bt (bt (bt (bt (bt (bt (bt (bt (bt (bt N_w7.out N_w8.out) N_w9.out) N_wA.out) N_wB.out) N_wC.out) N_wD.out) N_wE.out) N_wF.out) N_wG.out) N_wH.out) B_k_0.out; have V_k_1 : World.cell? wH ⟨w5.heap.size, 1, none⟩ = some (.slice A_k (lower l ma).length c_k) := pw_cell_below (bt (bt (bt (bt (bt (bt (bt (bt (bt (bt N_w7.out N_w8.out) N_w9.out) N_wA.out) N_wB.out) N_wC.out) N_wD.out) N_wE.out) N_wF.out) N_wG.out) N_wH.out) B_k_1.out; clear hb))
      | (go_at_call 18; (with_reducible refine (same_C (lower l ma) ma A_16 A_k c_16 c_k _ (Kd.C_below C_y.out N_wH.out) hl_y (Kd.C_below C_k.out (bt (bt (bt (bt (bt (bt (bt (bt (bt (bt (bt N_w6.out N_w7.out) N_w8.out) N_w9.out) N_wA.out) N_wB.out) N_wC.out) N_wD.out) N_wE.out) N_wF.out) N_wG.out) N_wH.out)) hl_k).mono ?_; rintro e wI ⟨rfl, hb⟩; clear V_y_0 V_y_1 V_k_0 V_k_1; have N_wI := Lib.hid (bt (x := wH) (Below.refl _ _) hb); have V_y_0 : World.cell? wI ⟨g16, 0, none⟩ = some (.int .i64 ma) := pw_cell_below (bt N_wH.out N_wI.out) B_y_0.out; have V_y_1 : World.cell? wI ⟨g16, 1, none⟩ = some (.slice A_16 (lower l ma).length c_16) := pw_cell_below (bt N_wH.out N_wI.out) B_y_1.out; have V_t_0 : World.cell? wI ⟨wB.heap.size, 0, none⟩ = some (.int .i64 ma) := pw_cell_below (bt (bt (bt (bt (bt N_wD.out N_wE.out) N_wF.out) N_wG.out) N_wH.out) N_wI.out) B_t_0.out; have V_t_1 : World.cell? wI ⟨wB.heap.size, 1, none⟩ = some (.int .i64 nx) := pw_cell_below (bt (bt (bt (bt (bt N_wD.out N_wE.out) N_wF.out) N_wG.out) N_wH.out) N_wI.out) B_t_1.out; have V_t_2 : World.cell? wI ⟨wB.heap.size, 2, none⟩ = some (.slice A_t (since l ma).length c_t) := pw_cell_below (bt (bt (bt (bt (bt N_wD.out N_wE.out) N_wF.out) N_wG.out) N_wH.out) N_wI.out) B_t_2.out; clear hb))
      | (go_at_call 16; (with_reducible refine (apply_C (lower l ma) (since l ma) l ma nx A_16 A_t c_16 c_t _ (Kd.C_below C_y.out (bt N_wH.out N_wI.out)) hl_y HRn (Kd.C_below C_t.out (bt (bt (bt (bt (bt (bt N_wC.out N_wD.out) N_wE.out) N_wF.out) N_wG.out) N_wH.out) N_wI.out)) hl_t HR_t hbs19.1 hbs19.2 hmg19).mono ?_; rintro e wJ ⟨A_z, c_z, rfl, hl_, hC_, hb⟩; clear V_y_0 V_y_1 V_t_0 V_t_1 V_t_2; have N_wJ := Lib.hid (bt (x := wI) (Below.refl _ _) hb); have C_z := Lib.hid hC_; have hl_z := hl_; clear hC_ hl_; have V_v_0 : World.cell? (World.alloc wJ (.cells #[.int .i64 nx, .slice A_z l.length c_z] 24)) ⟨w.heap.size, 0, none⟩ = some (.int .i64 nx) := pw_cell_below (below1 wJ _) (pw_cell_below (bt (bt (bt (bt (bt (bt (bt (bt (bt (bt (bt (bt (bt (bt (bt (bt (bt N_w2.out N_w3.out) N_w4.out) N_w5.out) N_w6.out) N_w7.out) N_w8.out) N_w9.out) N_wA.out) N_wB.out) N_wC.out) N_wD.out) N_wE.out) N_wF.out) N_wG.out) N_wH.out) N_wI.out) N_wJ.out) B_v_0.out); have V_v_1 : World.cell? (World.alloc wJ (.cells #[.int .i64 nx, .slice A_z l.length c_z] 24)) ⟨w.heap.size, 1, none⟩ = some (.slice A l.length c) := pw_cell_below (below1 wJ _) (pw_cell_below (bt (bt (bt (bt (bt (bt (bt (bt (bt (bt (bt (bt (bt (bt (bt (bt (bt N_w2.out N_w3.out) N_w4.out) N_w5.out) N_w6.out) N_w7.out) N_w8.out) N_w9.out) N_wA.out) N_wB.out) N_wC.out) N_wD.out) N_wE.out) N_wF.out) N_wG.out) N_wH.out) N_wI.out) N_wJ.out) B_v_1.out); clear hb))
      | (go_at_call 18; (with_reducible refine (same_C l nx A_z A c_z c _ (Kd.C_below C_z.out (bt (Below.refl _ _) (below1 _ _))) hl_z (Kd.C_below C_l.out (bt (bt (bt (bt (bt (bt (bt (bt (bt (bt (bt (bt (bt (bt (bt (bt (bt (bt (bt N_w1.out N_w2.out) N_w3.out) N_w4.out) N_w5.out) N_w6.out) N_w7.out) N_w8.out) N_w9.out) N_wA.out) N_wB.out) N_wC.out) N_wD.out) N_wE.out) N_wF.out) N_wG.out) N_wH.out) N_wI.out) N_wJ.out) (below1 _ _))) hl).mono ?_; rintro e wK ⟨rfl, hb⟩; clear V_v_0 V_v_1; have N_wK := Lib.hid (bt (x := wJ) (below1 _ _) hb); have B_z_0 : Hid (World.cell? wK ⟨wJ.heap.size, 0, none⟩ = some (.int .i64 nx)) := Lib.hid (box_cell hb (i := 0) rfl); have B_z_1 : Hid (World.cell? wK ⟨wJ.heap.size, 1, none⟩ = some (.slice A_z l.length c_z)) := Lib.hid (box_cell hb (i := 1) rfl); clear hb))
      )
    by_cases qe : nb = nx
    · subst qe
      have t9 : (nb == nb) = true := by simp
      have hsn := since_nil (fun x hx => (rt.all x hx).2.2)
      have hmg22 : mrg (since l (-9223372036854775808)) (since (since l nb) (-9223372036854775808)) = l := by rw [since_all (fun x hx => (rt.all x hx).2.1), hsn]; exact mrg_end (.inr rfl) |>.trans (List.append_nil l)
      have hl22 : l.length + (since l nb).length ≤ 256 := by rw [hsn]; have := rt.len; simpa using this
      have hb22 : wrap64 (wrap64 (bsize l) + wrap64 (bsize (since l nb))) ≤ 65536 := bytes_nil rt.bytes hsn
      refine start_ (n := 10) (S := fun w' => w'.cell? ⟨w.heap.size, 0, none⟩ = some (.int .i64 nb) ∧ w'.cell? ⟨w.heap.size, 1, none⟩ = some (.slice A l.length c) ∧ w'.cell? ⟨w7.heap.size, 0, none⟩ = some (.int .i64 nb) ∧ w'.cell? ⟨w7.heap.size, 1, none⟩ = some (.int .i64 nb) ∧ w'.cell? ⟨w7.heap.size, 2, none⟩ = some (.slice A_d (since l nb).length c_d)) (ds := [8]) #[false, false, false, false, false, false, false, false, false, false] (by kernel_rfl) rfl rfl ⟨pw_cell_below (bt (bt (bt (bt (bt (bt (bt (bt (bt (bt (bt (bt (bt (bt (bt (bt (bt (bt (bt N_w2.out N_w3.out) N_w4.out) N_w5.out) N_w6.out) N_w7.out) N_w8.out) N_w9.out) N_wA.out) N_wB.out) N_wC.out) N_wD.out) N_wE.out) N_wF.out) N_wG.out) N_wH.out) N_wI.out) N_wJ.out) N_wK.out) (Below.refl _ _).drew) B_v_0.out, pw_cell_below (bt (bt (bt (bt (bt (bt (bt (bt (bt (bt (bt (bt (bt (bt (bt (bt (bt (bt (bt N_w2.out N_w3.out) N_w4.out) N_w5.out) N_w6.out) N_w7.out) N_w8.out) N_w9.out) N_wA.out) N_wB.out) N_wC.out) N_wD.out) N_wE.out) N_wF.out) N_wG.out) N_wH.out) N_wI.out) N_wJ.out) N_wK.out) (Below.refl _ _).drew) B_v_1.out, pw_cell_below (bt (bt (bt (bt (bt (bt (bt (bt (bt (bt (bt (bt N_w9.out N_wA.out) N_wB.out) N_wC.out) N_wD.out) N_wE.out) N_wF.out) N_wG.out) N_wH.out) N_wI.out) N_wJ.out) N_wK.out) (Below.refl _ _).drew) B_d_0.out, pw_cell_below (bt (bt (bt (bt (bt (bt (bt (bt (bt (bt (bt (bt N_w9.out N_wA.out) N_wB.out) N_wC.out) N_wD.out) N_wE.out) N_wF.out) N_wG.out) N_wH.out) N_wI.out) N_wJ.out) N_wK.out) (Below.refl _ _).drew) B_d_1.out, pw_cell_below (bt (bt (bt (bt (bt (bt (bt (bt (bt (bt (bt (bt N_w9.out N_wA.out) N_wB.out) N_wC.out) N_wD.out) N_wE.out) N_wF.out) N_wG.out) N_wH.out) N_wI.out) N_wJ.out) N_wK.out) (Below.refl _ _).drew) B_d_2.out⟩ (fun hHeld => ?_)
      refine with_tabW fW.tab22 fW.bits22 (fun HT_ HW_ => ?_)
      refine take_ (i := 0) (N := some 137) (v := ?_) (a' := ?_) #[true, false, false, false, false, false, false, false, false, false] rfl rfl (take_ofW HT_.out HW_.out (by kernel_rfl)) (fun _ _ _ h => h) (Or.inl ⟨by rfl, ?_⟩) hHeld ?_ ?_
      rotate_left
      · rintro w' ⟨s0, s1, s2, s3, s4⟩
        go_simp
        with_reducible rfl
      rotate_left
      · simp only [Act.put, List.setIfInBounds_toArray, List.set_cons_zero, List.set_cons_succ, i64_w, i32_w]
        rfl
      refine take_ (i := 2) (N := some 139) (v := ?_) (a' := ?_) #[true, false, true, false, false, false, false, false, false, false] rfl rfl (take_ofW HT_.out HW_.out (by kernel_rfl)) (fun _ _ _ h => h) (Or.inl ⟨by rfl, ?_⟩) hHeld ?_ ?_
      rotate_left
      · rintro w' ⟨s0, s1, s2, s3, s4⟩
        go_simp
        with_reducible rfl
      rotate_left
      · simp only [Act.put, List.setIfInBounds_toArray, List.set_cons_zero, List.set_cons_succ, i64_w, i32_w]
        rfl
      refine join_ (σ := Nat × Option Addr × Nat × Option Addr × Nat) 2 #[true, true, true, true, true, true, true, true, false, false] (fun s => [(138, .agg #[.int .i64 nb, .slice s.2.1 l.length s.2.2.1]), (140, .tuple #[.agg #[.int .i64 nb, .slice s.2.2.2.1 l.length s.2.2.2.2], .int .i64 0]), (136, .tuple #[.agg #[.int .i64 nb, .slice s.2.2.2.1 l.length s.2.2.2.2], .int .i64 0]), (141, .agg #[.int .i64 nb, .slice s.2.2.2.1 l.length s.2.2.2.2]), (142, .int .i64 0), (18, .pointer (some ⟨s.1, 0, none⟩))]) (fun s w' => (Below wK.heap.size wK w' ∧ Zbox w' s.1 ∧ wK.heap.size ≤ s.1 ∧ kVn.R 48 w' wK.heap.size (fun k => k ≠ s.1) (.slice s.2.2.2.1 l.length s.2.2.2.2) l)) ?_ ?_
      rotate_left
      · intro hCont
        refine two_ (i := 1) (j := 7) (Ni := some 138) (Nj := some 18) #[true, true, true, false, false, false, false, false, false, false] #[true, false, true, false, false, false, false, true, false, false] rfl rfl rfl rfl (two_of HT_.out (by kernel_rfl)) (by decide) (by decide) (fun K hK => ?_) (fun K hK => ?_)
        · skip
          refine goes_ Try.func10 (by kernel_rfl) rfl #[.agg #[.int .i64 nb, .slice A l.length c]] (by rfl) rfl rfl (by simp only [List.map_toArray, List.map_cons, List.map_nil]; first | rfl | (refine congrArg List.toArray (congr (congrArg List.cons ?_) (congrArg (fun z => [z]) ?_)) <;> first | rfl | go_simp)) ?_
          with_reducible refine (copy_C l nb A c _ (Kd.C_below C_l.out (bt (bt (bt (bt (bt (bt (bt (bt (bt (bt (bt (bt (bt (bt (bt (bt (bt (bt (bt (bt N_w1.out N_w2.out) N_w3.out) N_w4.out) N_w5.out) N_w6.out) N_w7.out) N_w8.out) N_w9.out) N_wA.out) N_wB.out) N_wC.out) N_wD.out) N_wE.out) N_wF.out) N_wG.out) N_wH.out) N_wI.out) N_wJ.out) N_wK.out) (Below.refl _ _).drew)) hl HR).mono ?_
          rintro e wa ⟨Ac, cc, rfl, hcc, hCc, hba⟩
          refine ⟨_, rfl, ?_⟩
          refine hK.out _ _ ⟨pw_cell_below hba (hHeld.1), pw_cell_below hba (hHeld.2.1), pw_cell_below hba (hHeld.2.2.1), pw_cell_below hba (hHeld.2.2.2.1), pw_cell_below hba (hHeld.2.2.2.2)⟩ (fun hHeld => ?_)
          clear hK K
          refine norm_ (a' := ?_) ?_ ?_
          rotate_left
          · show Act.put _ (some 138) _ = _
            simp only [Act.put, List.setIfInBounds_toArray, List.set_cons_zero, List.set_cons_succ, i64_w, i32_w]
            rfl
          refine two_ (i := 3) (j := 7) (Ni := some 140) (Nj := some 18) #[true, true, true, true, false, false, false, false, false, false] #[true, true, true, false, false, false, false, true, false, false] rfl rfl rfl rfl (two_of HT_.out (by kernel_rfl)) (by decide) (by decide) (fun K hK => ?_) (fun K hK => ?_)
          · skip
            refine goes_ Try.func16 (by kernel_rfl) rfl #[.agg #[.int .i64 nb, .slice Ac l.length cc], .agg #[.int .i64 nb, .int .i64 nb, .slice A_d (since l nb).length c_d]] (by rfl) rfl rfl (by simp only [List.map_toArray, List.map_cons, List.map_nil]; first | rfl | (refine congrArg List.toArray (congr (congrArg List.cons ?_) (congrArg (fun z => [z]) ?_)) <;> first | rfl | go_simp)) ?_
            with_reducible refine (apply_R l (since l nb) l nb nb Ac A_d cc c_d _ (Kd.C_below hCc (Below.refl _ _)) hcc HR (Kd.C_below C_d.out (bt (bt (bt (bt (bt (bt (bt (bt (bt (bt (bt (bt (bt N_w8.out N_w9.out) N_wA.out) N_wB.out) N_wC.out) N_wD.out) N_wE.out) N_wF.out) N_wG.out) N_wH.out) N_wI.out) N_wJ.out) N_wK.out) (bt (Below.refl _ _).drew hba))) hl_d HR_d hl22 hb22 hmg22).mono ?_
            rintro e wb ⟨Ax, cx, rfl, hcx, hRx, hbb⟩
            refine ⟨_, rfl, ?_⟩
            refine hK.out _ _ ⟨pw_cell_below hbb (hHeld.1), pw_cell_below hbb (hHeld.2.1), pw_cell_below hbb (hHeld.2.2.1), pw_cell_below hbb (hHeld.2.2.2.1), pw_cell_below hbb (hHeld.2.2.2.2)⟩ (fun hHeld => ?_)
            clear hK K
            refine norm_ (a' := ?_) ?_ ?_
            rotate_left
            · show Act.put _ (some 140) _ = _
              simp only [Act.put, List.setIfInBounds_toArray, List.set_cons_zero, List.set_cons_succ, i64_w, i32_w]
              rfl
            refine pure_ (i := 4) (N := some 136) (v := ?_) (a' := ?_) #[true, true, true, true, true, false, false, false, false, false] rfl rfl (any_of HT_.out (by kernel_rfl)) (fun _ _ _ h => h) (Or.inl ⟨by rfl, ?_⟩) ?_ ?_
            rotate_left
            · intro w'
              go_simp
              with_reducible rfl
            rotate_left
            · simp only [Act.put, List.setIfInBounds_toArray, List.set_cons_zero, List.set_cons_succ, i64_w, i32_w]
              rfl
            refine pure_ (i := 5) (N := some 141) (v := ?_) (a' := ?_) #[true, true, true, true, true, true, false, false, false, false] rfl rfl (any_of HT_.out (by kernel_rfl)) (fun _ _ _ h => h) (Or.inl ⟨by rfl, ?_⟩) ?_ ?_
            rotate_left
            · intro w'
              go_simp
              with_reducible rfl
            rotate_left
            · simp only [Act.put, List.setIfInBounds_toArray, List.set_cons_zero, List.set_cons_succ, i64_w, i32_w]
              rfl
            refine pure_ (i := 6) (N := some 142) (v := ?_) (a' := ?_) #[true, true, true, true, true, true, true, false, false, false] rfl rfl (any_of HT_.out (by kernel_rfl)) (fun _ _ _ h => h) (Or.inl ⟨by rfl, ?_⟩) ?_ ?_
            rotate_left
            · intro w'
              go_simp
              with_reducible rfl
            rotate_left
            · simp only [Act.put, List.setIfInBounds_toArray, List.set_cons_zero, List.set_cons_succ, i64_w, i32_w]
              rfl
            refine one_ (i := 7) (N := some 18) #[true, true, true, true, true, true, true, true, false, false] rfl rfl (one_of HT_.out (by kernel_rfl)) (by decide) (fun K hK => ?_)
            refine value_ (w1 := ?_) (v := ?_) (by rfl) rfl ?_ ?_
            rotate_left 2
            · go_simp
              constructor
              · rfl
              · rfl
            refine hK.out _ _ ⟨pw_cell_below (below1 _ _) (hHeld.1), pw_cell_below (below1 _ _) (hHeld.2.1), pw_cell_below (below1 _ _) (hHeld.2.2.1), pw_cell_below (below1 _ _) (hHeld.2.2.2.1), pw_cell_below (below1 _ _) (hHeld.2.2.2.2)⟩ (fun hHeld => ?_)
            clear hK K
            refine norm_ (a' := ?_) ?_ ?_
            rotate_left
            · show Act.put _ (some 18) _ = _
              simp only [Act.put, List.setIfInBounds_toArray, List.set_cons_zero, List.set_cons_succ, i64_w, i32_w]
              rfl
            exact norm_ (by simp only [putAll, Act.put, List.setIfInBounds_toArray, List.set_cons_zero, List.set_cons_succ]) (hCont (wb.heap.size, Ac, cc, Ax, cx) _ ⟨(bt (bt (bt (Below.refl _ _).drew hba) hbb) (below1 _ _)), zbox_new _, ((bt (bt (Below.refl wK.heap.size wK).drew hba) hbb)).size, r_new hRx (show wK.heap.size ≤ wa.heap.size from ((bt (Below.refl wK.heap.size wK).drew hba)).size) _⟩)
          · skip
            refine value_ (w1 := ?_) (v := ?_) (by rfl) rfl ?_ ?_
            rotate_left 2
            · go_simp
              constructor
              · rfl
              · rfl
            refine hK.out _ _ ⟨pw_cell_below (below1 _ _) (hHeld.1), pw_cell_below (below1 _ _) (hHeld.2.1), pw_cell_below (below1 _ _) (hHeld.2.2.1), pw_cell_below (below1 _ _) (hHeld.2.2.2.1), pw_cell_below (below1 _ _) (hHeld.2.2.2.2)⟩ (fun hHeld => ?_)
            clear hK K
            refine norm_ (a' := ?_) ?_ ?_
            rotate_left
            · show Act.put _ (some 18) _ = _
              simp only [Act.put, List.setIfInBounds_toArray, List.set_cons_zero, List.set_cons_succ, i64_w, i32_w]
              rfl
            refine one_ (i := 3) (N := some 140) #[true, true, true, true, false, false, false, true, false, false] rfl rfl (one_of HT_.out (by kernel_rfl)) (by decide) (fun K hK => ?_)
            refine goes_ Try.func16 (by kernel_rfl) rfl #[.agg #[.int .i64 nb, .slice Ac l.length cc], .agg #[.int .i64 nb, .int .i64 nb, .slice A_d (since l nb).length c_d]] (by rfl) rfl rfl (by simp only [List.map_toArray, List.map_cons, List.map_nil]; first | rfl | (refine congrArg List.toArray (congr (congrArg List.cons ?_) (congrArg (fun z => [z]) ?_)) <;> first | rfl | go_simp)) ?_
            with_reducible refine (apply_R l (since l nb) l nb nb Ac A_d cc c_d _ (Kd.C_below hCc (below1 _ _)) hcc HR (Kd.C_below C_d.out (bt (bt (bt (bt (bt (bt (bt (bt (bt (bt (bt (bt (bt N_w8.out N_w9.out) N_wA.out) N_wB.out) N_wC.out) N_wD.out) N_wE.out) N_wF.out) N_wG.out) N_wH.out) N_wI.out) N_wJ.out) N_wK.out) (bt (bt (Below.refl _ _).drew hba) (below1 _ _)))) hl_d HR_d hl22 hb22 hmg22).mono ?_
            rintro e wb ⟨Ax, cx, rfl, hcx, hRx, hbb⟩
            refine ⟨_, rfl, ?_⟩
            refine hK.out _ _ ⟨pw_cell_below hbb (hHeld.1), pw_cell_below hbb (hHeld.2.1), pw_cell_below hbb (hHeld.2.2.1), pw_cell_below hbb (hHeld.2.2.2.1), pw_cell_below hbb (hHeld.2.2.2.2)⟩ (fun hHeld => ?_)
            clear hK K
            refine norm_ (a' := ?_) ?_ ?_
            rotate_left
            · show Act.put _ (some 140) _ = _
              simp only [Act.put, List.setIfInBounds_toArray, List.set_cons_zero, List.set_cons_succ, i64_w, i32_w]
              rfl
            refine pure_ (i := 4) (N := some 136) (v := ?_) (a' := ?_) #[true, true, true, true, true, false, false, true, false, false] rfl rfl (any_of HT_.out (by kernel_rfl)) (fun _ _ _ h => h) (Or.inl ⟨by rfl, ?_⟩) ?_ ?_
            rotate_left
            · intro w'
              go_simp
              with_reducible rfl
            rotate_left
            · simp only [Act.put, List.setIfInBounds_toArray, List.set_cons_zero, List.set_cons_succ, i64_w, i32_w]
              rfl
            refine pure_ (i := 5) (N := some 141) (v := ?_) (a' := ?_) #[true, true, true, true, true, true, false, true, false, false] rfl rfl (any_of HT_.out (by kernel_rfl)) (fun _ _ _ h => h) (Or.inl ⟨by rfl, ?_⟩) ?_ ?_
            rotate_left
            · intro w'
              go_simp
              with_reducible rfl
            rotate_left
            · simp only [Act.put, List.setIfInBounds_toArray, List.set_cons_zero, List.set_cons_succ, i64_w, i32_w]
              rfl
            refine pure_ (i := 6) (N := some 142) (v := ?_) (a' := ?_) #[true, true, true, true, true, true, true, true, false, false] rfl rfl (any_of HT_.out (by kernel_rfl)) (fun _ _ _ h => h) (Or.inl ⟨by rfl, ?_⟩) ?_ ?_
            rotate_left
            · intro w'
              go_simp
              with_reducible rfl
            rotate_left
            · simp only [Act.put, List.setIfInBounds_toArray, List.set_cons_zero, List.set_cons_succ, i64_w, i32_w]
              rfl
            exact norm_ (by simp only [putAll, Act.put, List.setIfInBounds_toArray, List.set_cons_zero, List.set_cons_succ]) (hCont (wa.heap.size, Ac, cc, Ax, cx) _ ⟨(bt (bt (bt (Below.refl _ _).drew hba) (below1 _ _)) hbb), (zbox_new _).below hbb, ((bt (Below.refl wK.heap.size wK).drew hba)).size, r_low hRx ((bt (bt (Below.refl wK.heap.size wK).drew hba) (below1 wa _))).size (by rw [alloc_size]; exact Nat.lt_succ_self _)⟩)
        · skip
          refine value_ (w1 := ?_) (v := ?_) (by rfl) rfl ?_ ?_
          rotate_left 2
          · go_simp
            constructor
            · rfl
            · rfl
          refine hK.out _ _ ⟨pw_cell_below (below1 _ _) (hHeld.1), pw_cell_below (below1 _ _) (hHeld.2.1), pw_cell_below (below1 _ _) (hHeld.2.2.1), pw_cell_below (below1 _ _) (hHeld.2.2.2.1), pw_cell_below (below1 _ _) (hHeld.2.2.2.2)⟩ (fun hHeld => ?_)
          clear hK K
          refine norm_ (a' := ?_) ?_ ?_
          rotate_left
          · show Act.put _ (some 18) _ = _
            simp only [Act.put, List.setIfInBounds_toArray, List.set_cons_zero, List.set_cons_succ, i64_w, i32_w]
            rfl
          refine one_ (i := 1) (N := some 138) #[true, true, true, false, false, false, false, true, false, false] rfl rfl (one_of HT_.out (by kernel_rfl)) (by decide) (fun K hK => ?_)
          refine goes_ Try.func10 (by kernel_rfl) rfl #[.agg #[.int .i64 nb, .slice A l.length c]] (by rfl) rfl rfl (by simp only [List.map_toArray, List.map_cons, List.map_nil]; first | rfl | (refine congrArg List.toArray (congr (congrArg List.cons ?_) (congrArg (fun z => [z]) ?_)) <;> first | rfl | go_simp)) ?_
          with_reducible refine (copy_C l nb A c _ (Kd.C_below C_l.out (bt (bt (bt (bt (bt (bt (bt (bt (bt (bt (bt (bt (bt (bt (bt (bt (bt (bt (bt (bt N_w1.out N_w2.out) N_w3.out) N_w4.out) N_w5.out) N_w6.out) N_w7.out) N_w8.out) N_w9.out) N_wA.out) N_wB.out) N_wC.out) N_wD.out) N_wE.out) N_wF.out) N_wG.out) N_wH.out) N_wI.out) N_wJ.out) N_wK.out) (below1 _ _).drew)) hl HR).mono ?_
          rintro e wa ⟨Ac, cc, rfl, hcc, hCc, hba⟩
          refine ⟨_, rfl, ?_⟩
          refine hK.out _ _ ⟨pw_cell_below hba (hHeld.1), pw_cell_below hba (hHeld.2.1), pw_cell_below hba (hHeld.2.2.1), pw_cell_below hba (hHeld.2.2.2.1), pw_cell_below hba (hHeld.2.2.2.2)⟩ (fun hHeld => ?_)
          clear hK K
          refine norm_ (a' := ?_) ?_ ?_
          rotate_left
          · show Act.put _ (some 138) _ = _
            simp only [Act.put, List.setIfInBounds_toArray, List.set_cons_zero, List.set_cons_succ, i64_w, i32_w]
            rfl
          refine one_ (i := 3) (N := some 140) #[true, true, true, true, false, false, false, true, false, false] rfl rfl (one_of HT_.out (by kernel_rfl)) (by decide) (fun K hK => ?_)
          refine goes_ Try.func16 (by kernel_rfl) rfl #[.agg #[.int .i64 nb, .slice Ac l.length cc], .agg #[.int .i64 nb, .int .i64 nb, .slice A_d (since l nb).length c_d]] (by rfl) rfl rfl (by simp only [List.map_toArray, List.map_cons, List.map_nil]; first | rfl | (refine congrArg List.toArray (congr (congrArg List.cons ?_) (congrArg (fun z => [z]) ?_)) <;> first | rfl | go_simp)) ?_
          with_reducible refine (apply_R l (since l nb) l nb nb Ac A_d cc c_d _ (Kd.C_below hCc (Below.refl _ _)) hcc HR (Kd.C_below C_d.out (bt (bt (bt (bt (bt (bt (bt (bt (bt (bt (bt (bt (bt N_w8.out N_w9.out) N_wA.out) N_wB.out) N_wC.out) N_wD.out) N_wE.out) N_wF.out) N_wG.out) N_wH.out) N_wI.out) N_wJ.out) N_wK.out) (bt (below1 _ _).drew hba))) hl_d HR_d hl22 hb22 hmg22).mono ?_
          rintro e wb ⟨Ax, cx, rfl, hcx, hRx, hbb⟩
          refine ⟨_, rfl, ?_⟩
          refine hK.out _ _ ⟨pw_cell_below hbb (hHeld.1), pw_cell_below hbb (hHeld.2.1), pw_cell_below hbb (hHeld.2.2.1), pw_cell_below hbb (hHeld.2.2.2.1), pw_cell_below hbb (hHeld.2.2.2.2)⟩ (fun hHeld => ?_)
          clear hK K
          refine norm_ (a' := ?_) ?_ ?_
          rotate_left
          · show Act.put _ (some 140) _ = _
            simp only [Act.put, List.setIfInBounds_toArray, List.set_cons_zero, List.set_cons_succ, i64_w, i32_w]
            rfl
          refine pure_ (i := 4) (N := some 136) (v := ?_) (a' := ?_) #[true, true, true, true, true, false, false, true, false, false] rfl rfl (any_of HT_.out (by kernel_rfl)) (fun _ _ _ h => h) (Or.inl ⟨by rfl, ?_⟩) ?_ ?_
          rotate_left
          · intro w'
            go_simp
            with_reducible rfl
          rotate_left
          · simp only [Act.put, List.setIfInBounds_toArray, List.set_cons_zero, List.set_cons_succ, i64_w, i32_w]
            rfl
          refine pure_ (i := 5) (N := some 141) (v := ?_) (a' := ?_) #[true, true, true, true, true, true, false, true, false, false] rfl rfl (any_of HT_.out (by kernel_rfl)) (fun _ _ _ h => h) (Or.inl ⟨by rfl, ?_⟩) ?_ ?_
          rotate_left
          · intro w'
            go_simp
            with_reducible rfl
          rotate_left
          · simp only [Act.put, List.setIfInBounds_toArray, List.set_cons_zero, List.set_cons_succ, i64_w, i32_w]
            rfl
          refine pure_ (i := 6) (N := some 142) (v := ?_) (a' := ?_) #[true, true, true, true, true, true, true, true, false, false] rfl rfl (any_of HT_.out (by kernel_rfl)) (fun _ _ _ h => h) (Or.inl ⟨by rfl, ?_⟩) ?_ ?_
          rotate_left
          · intro w'
            go_simp
            with_reducible rfl
          rotate_left
          · simp only [Act.put, List.setIfInBounds_toArray, List.set_cons_zero, List.set_cons_succ, i64_w, i32_w]
            rfl
          exact norm_ (by simp only [putAll, Act.put, List.setIfInBounds_toArray, List.set_cons_zero, List.set_cons_succ]) (hCont (wK.heap.size, Ac, cc, Ax, cx) _ ⟨(bt (bt (below1 _ _).drew hba) hbb), (((zbox_new wK).below (Below.refl _ _).drew).below hba).below hbb, Nat.le_refl _, r_low hRx (show wK.heap.size ≤ wa.heap.size from Below.size (bt (below1 wK (.cells #[.int .i64 0, .slice none 0 0] 24)).drew hba)) (Zbox.lt (((zbox_new wK).below (Below.refl _ _).drew).below hba))⟩)
      rintro ⟨g22, Ac22, cc22, A_22, c_22⟩ wx22 ⟨hF1, hF2, hF3, hF4⟩
      have k0 := hF2.c0
      have k1 := hF2.c1
      have kf := hF2.fr
      refine norm_ (a' := ?_) ?_ ?_
      rotate_left
      · simp only [putAll, Act.put, List.setIfInBounds_toArray, List.set_cons_zero, List.set_cons_succ]
        rfl
      refine last_ (i := 8) (N := none) #[true, true, true, true, true, true, true, true, true, false] rfl rfl (one_of HT_.out (by kernel_rfl)) (by decide) (fun K hK => ?_)
      refine skip_ (w1 := ?_) (by rfl) rfl ?_ ?_
      rotate_left
      · go_simp
        rfl
      refine hK.out _ _ ?_
      clear hK K
      refine pure_ (i := 9) (N := some 19) (v := ?_) (a' := ?_) #[true, true, true, true, true, true, true, true, true, true] rfl rfl (any_of HT_.out (by kernel_rfl)) (fun _ _ _ h => h) (Or.inl ⟨by rfl, ?_⟩) ?_ ?_
      rotate_left
      · intro w'
        go_simp
        with_reducible rfl
      rotate_left
      · simp only [Act.put, List.setIfInBounds_toArray, List.set_cons_zero, List.set_cons_succ, i64_w, i32_w]
        rfl
      refine done_ (done_of HT_.out (by kernel_rfl)) ?_
      obtain ⟨hs1, hs2, hs3, hs4, hs5⟩ := stored nb hF1 hF2 hF3 hF4
      generalize ((wx22.setCell ⟨g22, 0, none⟩ (.int .i64 nb)).setCell ⟨g22, 1, none⟩ (.slice A_22 l.length c_22)) = wM at *
      clear hF1 hF2 hF3 hF4 k0 k1 kf
      have N_wM := Lib.hid hs1
      have C_ag := Lib.hid hs5
      have hl_ag := hs4
      have B_ag_0 := Lib.hid hs2
      have B_ag_1 := Lib.hid hs3
      clear hs1 hs2 hs3 hs4 hs5
      have V_ag_0 : World.cell? wM ⟨g22, 0, none⟩ = some (.int .i64 nb) := pw_cell_below (Below.refl _ _) B_ag_0.out
      have V_ag_1 : World.cell? wM ⟨g22, 1, none⟩ = some (.slice A_22 l.length c_22) := pw_cell_below (Below.refl _ _) B_ag_1.out
      have V_v_0 : World.cell? wM ⟨w.heap.size, 0, none⟩ = some (.int .i64 nb) := pw_cell_below (bt (bt (bt (bt (bt (bt (bt (bt (bt (bt (bt (bt (bt (bt (bt (bt (bt (bt (bt N_w2.out N_w3.out) N_w4.out) N_w5.out) N_w6.out) N_w7.out) N_w8.out) N_w9.out) N_wA.out) N_wB.out) N_wC.out) N_wD.out) N_wE.out) N_wF.out) N_wG.out) N_wH.out) N_wI.out) N_wJ.out) N_wK.out) N_wM.out) B_v_0.out
      have V_v_1 : World.cell? wM ⟨w.heap.size, 1, none⟩ = some (.slice A l.length c) := pw_cell_below (bt (bt (bt (bt (bt (bt (bt (bt (bt (bt (bt (bt (bt (bt (bt (bt (bt (bt (bt N_w2.out N_w3.out) N_w4.out) N_w5.out) N_w6.out) N_w7.out) N_w8.out) N_w9.out) N_wA.out) N_wB.out) N_wC.out) N_wD.out) N_wE.out) N_wF.out) N_wG.out) N_wH.out) N_wI.out) N_wJ.out) N_wK.out) N_wM.out) B_v_1.out
      go_wp2_with (first
        | (go_at_call 18; (with_reducible refine (same_C l nb A_22 A c_22 c _ (Kd.C_below C_ag.out (Below.refl _ _)) hl_ag (Kd.C_below C_l.out (bt (bt (bt (bt (bt (bt (bt (bt (bt (bt (bt (bt (bt (bt (bt (bt (bt (bt (bt (bt N_w1.out N_w2.out) N_w3.out) N_w4.out) N_w5.out) N_w6.out) N_w7.out) N_w8.out) N_w9.out) N_wA.out) N_wB.out) N_wC.out) N_wD.out) N_wE.out) N_wF.out) N_wG.out) N_wH.out) N_wI.out) N_wJ.out) N_wK.out) N_wM.out)) hl).mono ?_; rintro e wN ⟨rfl, hb⟩; clear V_ag_0 V_ag_1 V_v_0 V_v_1; have N_wN := Lib.hid (bt (x := wM) (Below.refl _ _) hb); clear hb))
        )
      go_ret
      exact ⟨rfl, (bt (bt (bt (bt (bt (bt (bt (bt (bt (bt (bt (bt (bt (bt (bt (bt (bt (bt (bt (bt (bt N_w1.out N_w2.out) N_w3.out) N_w4.out) N_w5.out) N_w6.out) N_w7.out) N_w8.out) N_w9.out) N_wA.out) N_wB.out) N_wC.out) N_wD.out) N_wE.out) N_wF.out) N_wG.out) N_wH.out) N_wI.out) N_wJ.out) N_wK.out) N_wM.out) N_wN.out)⟩
    · skip
      have t9 : (nb == nx) = false := by simpa using qe
      refine start_ (n := 10) (S := fun w' => w'.cell? ⟨w.heap.size, 0, none⟩ = some (.int .i64 nx) ∧ w'.cell? ⟨w.heap.size, 1, none⟩ = some (.slice A l.length c) ∧ w'.cell? ⟨w7.heap.size, 0, none⟩ = some (.int .i64 nb) ∧ w'.cell? ⟨w7.heap.size, 1, none⟩ = some (.int .i64 nx) ∧ w'.cell? ⟨w7.heap.size, 2, none⟩ = some (.slice A_d (since l nb).length c_d)) (ds := [8]) #[false, false, false, false, false, false, false, false, false, false] (by kernel_rfl) rfl rfl ⟨pw_cell_below (bt (bt (bt (bt (bt (bt (bt (bt (bt (bt (bt (bt (bt (bt (bt (bt (bt (bt (bt N_w2.out N_w3.out) N_w4.out) N_w5.out) N_w6.out) N_w7.out) N_w8.out) N_w9.out) N_wA.out) N_wB.out) N_wC.out) N_wD.out) N_wE.out) N_wF.out) N_wG.out) N_wH.out) N_wI.out) N_wJ.out) N_wK.out) (Below.refl _ _).drew) B_v_0.out, pw_cell_below (bt (bt (bt (bt (bt (bt (bt (bt (bt (bt (bt (bt (bt (bt (bt (bt (bt (bt (bt N_w2.out N_w3.out) N_w4.out) N_w5.out) N_w6.out) N_w7.out) N_w8.out) N_w9.out) N_wA.out) N_wB.out) N_wC.out) N_wD.out) N_wE.out) N_wF.out) N_wG.out) N_wH.out) N_wI.out) N_wJ.out) N_wK.out) (Below.refl _ _).drew) B_v_1.out, pw_cell_below (bt (bt (bt (bt (bt (bt (bt (bt (bt (bt (bt (bt N_w9.out N_wA.out) N_wB.out) N_wC.out) N_wD.out) N_wE.out) N_wF.out) N_wG.out) N_wH.out) N_wI.out) N_wJ.out) N_wK.out) (Below.refl _ _).drew) B_d_0.out, pw_cell_below (bt (bt (bt (bt (bt (bt (bt (bt (bt (bt (bt (bt N_w9.out N_wA.out) N_wB.out) N_wC.out) N_wD.out) N_wE.out) N_wF.out) N_wG.out) N_wH.out) N_wI.out) N_wJ.out) N_wK.out) (Below.refl _ _).drew) B_d_1.out, pw_cell_below (bt (bt (bt (bt (bt (bt (bt (bt (bt (bt (bt (bt N_w9.out N_wA.out) N_wB.out) N_wC.out) N_wD.out) N_wE.out) N_wF.out) N_wG.out) N_wH.out) N_wI.out) N_wJ.out) N_wK.out) (Below.refl _ _).drew) B_d_2.out⟩ (fun hHeld => ?_)
      refine with_tabW fW.tab22 fW.bits22 (fun HT_ HW_ => ?_)
      refine take_ (i := 0) (N := some 137) (v := ?_) (a' := ?_) #[true, false, false, false, false, false, false, false, false, false] rfl rfl (take_ofW HT_.out HW_.out (by kernel_rfl)) (fun _ _ _ h => h) (Or.inl ⟨by rfl, ?_⟩) hHeld ?_ ?_
      rotate_left
      · rintro w' ⟨s0, s1, s2, s3, s4⟩
        go_simp
        with_reducible rfl
      rotate_left
      · simp only [Act.put, List.setIfInBounds_toArray, List.set_cons_zero, List.set_cons_succ, i64_w, i32_w]
        rfl
      refine take_ (i := 2) (N := some 139) (v := ?_) (a' := ?_) #[true, false, true, false, false, false, false, false, false, false] rfl rfl (take_ofW HT_.out HW_.out (by kernel_rfl)) (fun _ _ _ h => h) (Or.inl ⟨by rfl, ?_⟩) hHeld ?_ ?_
      rotate_left
      · rintro w' ⟨s0, s1, s2, s3, s4⟩
        go_simp
        with_reducible rfl
      rotate_left
      · simp only [Act.put, List.setIfInBounds_toArray, List.set_cons_zero, List.set_cons_succ, i64_w, i32_w]
        rfl
      refine join_ (σ := Nat × Option Addr × Nat) 2 #[true, true, true, true, true, true, true, true, false, false] (fun s => [(138, .agg #[.int .i64 nx, .slice s.2.1 l.length s.2.2]), (140, .tuple #[.agg #[.int .i64 0, .slice none 0 0], .int .i64 91]), (136, .tuple #[.agg #[.int .i64 0, .slice none 0 0], .int .i64 91]), (141, .agg #[.int .i64 0, .slice none 0 0]), (142, .int .i64 91), (18, .pointer (some ⟨s.1, 0, none⟩))]) (fun s w' => (Below wK.heap.size wK w' ∧ Zbox w' s.1 ∧ wK.heap.size ≤ s.1)) ?_ ?_
      rotate_left
      · intro hCont
        refine two_ (i := 1) (j := 7) (Ni := some 138) (Nj := some 18) #[true, true, true, false, false, false, false, false, false, false] #[true, false, true, false, false, false, false, true, false, false] rfl rfl rfl rfl (two_of HT_.out (by kernel_rfl)) (by decide) (by decide) (fun K hK => ?_) (fun K hK => ?_)
        · skip
          refine goes_ Try.func10 (by kernel_rfl) rfl #[.agg #[.int .i64 nx, .slice A l.length c]] (by rfl) rfl rfl (by simp only [List.map_toArray, List.map_cons, List.map_nil]; first | rfl | (refine congrArg List.toArray (congr (congrArg List.cons ?_) (congrArg (fun z => [z]) ?_)) <;> first | rfl | go_simp)) ?_
          with_reducible refine (copy_C l nx A c _ (Kd.C_below C_l.out (bt (bt (bt (bt (bt (bt (bt (bt (bt (bt (bt (bt (bt (bt (bt (bt (bt (bt (bt (bt N_w1.out N_w2.out) N_w3.out) N_w4.out) N_w5.out) N_w6.out) N_w7.out) N_w8.out) N_w9.out) N_wA.out) N_wB.out) N_wC.out) N_wD.out) N_wE.out) N_wF.out) N_wG.out) N_wH.out) N_wI.out) N_wJ.out) N_wK.out) (Below.refl _ _).drew)) hl HR).mono ?_
          rintro e wa ⟨Ac, cc, rfl, hcc, hCc, hba⟩
          refine ⟨_, rfl, ?_⟩
          refine hK.out _ _ ⟨pw_cell_below hba (hHeld.1), pw_cell_below hba (hHeld.2.1), pw_cell_below hba (hHeld.2.2.1), pw_cell_below hba (hHeld.2.2.2.1), pw_cell_below hba (hHeld.2.2.2.2)⟩ (fun hHeld => ?_)
          clear hK K
          refine norm_ (a' := ?_) ?_ ?_
          rotate_left
          · show Act.put _ (some 138) _ = _
            simp only [Act.put, List.setIfInBounds_toArray, List.set_cons_zero, List.set_cons_succ, i64_w, i32_w]
            rfl
          refine two_ (i := 3) (j := 7) (Ni := some 140) (Nj := some 18) #[true, true, true, true, false, false, false, false, false, false] #[true, true, true, false, false, false, false, true, false, false] rfl rfl rfl rfl (two_of HT_.out (by kernel_rfl)) (by decide) (by decide) (fun K hK => ?_) (fun K hK => ?_)
          · skip
            refine goes_ Try.func16 (by kernel_rfl) rfl #[.agg #[.int .i64 nx, .slice Ac l.length cc], .agg #[.int .i64 nb, .int .i64 nx, .slice A_d (since l nb).length c_d]] (by rfl) rfl rfl (by simp only [List.map_toArray, List.map_cons, List.map_nil]; first | rfl | (refine congrArg List.toArray (congr (congrArg List.cons ?_) (congrArg (fun z => [z]) ?_)) <;> first | rfl | go_simp)) ?_
            with_reducible refine (apply_no l (since l nb) nx nb nx Ac A_d cc c_d _ qe).mono ?_
            rintro e wb ⟨rfl, hbb⟩
            refine ⟨_, rfl, ?_⟩
            refine hK.out _ _ ⟨pw_cell_below hbb (hHeld.1), pw_cell_below hbb (hHeld.2.1), pw_cell_below hbb (hHeld.2.2.1), pw_cell_below hbb (hHeld.2.2.2.1), pw_cell_below hbb (hHeld.2.2.2.2)⟩ (fun hHeld => ?_)
            clear hK K
            refine norm_ (a' := ?_) ?_ ?_
            rotate_left
            · show Act.put _ (some 140) _ = _
              simp only [Act.put, List.setIfInBounds_toArray, List.set_cons_zero, List.set_cons_succ, i64_w, i32_w]
              rfl
            refine pure_ (i := 4) (N := some 136) (v := ?_) (a' := ?_) #[true, true, true, true, true, false, false, false, false, false] rfl rfl (any_of HT_.out (by kernel_rfl)) (fun _ _ _ h => h) (Or.inl ⟨by rfl, ?_⟩) ?_ ?_
            rotate_left
            · intro w'
              go_simp
              with_reducible rfl
            rotate_left
            · simp only [Act.put, List.setIfInBounds_toArray, List.set_cons_zero, List.set_cons_succ, i64_w, i32_w]
              rfl
            refine pure_ (i := 5) (N := some 141) (v := ?_) (a' := ?_) #[true, true, true, true, true, true, false, false, false, false] rfl rfl (any_of HT_.out (by kernel_rfl)) (fun _ _ _ h => h) (Or.inl ⟨by rfl, ?_⟩) ?_ ?_
            rotate_left
            · intro w'
              go_simp
              with_reducible rfl
            rotate_left
            · simp only [Act.put, List.setIfInBounds_toArray, List.set_cons_zero, List.set_cons_succ, i64_w, i32_w]
              rfl
            refine pure_ (i := 6) (N := some 142) (v := ?_) (a' := ?_) #[true, true, true, true, true, true, true, false, false, false] rfl rfl (any_of HT_.out (by kernel_rfl)) (fun _ _ _ h => h) (Or.inl ⟨by rfl, ?_⟩) ?_ ?_
            rotate_left
            · intro w'
              go_simp
              with_reducible rfl
            rotate_left
            · simp only [Act.put, List.setIfInBounds_toArray, List.set_cons_zero, List.set_cons_succ, i64_w, i32_w]
              rfl
            refine one_ (i := 7) (N := some 18) #[true, true, true, true, true, true, true, true, false, false] rfl rfl (one_of HT_.out (by kernel_rfl)) (by decide) (fun K hK => ?_)
            refine value_ (w1 := ?_) (v := ?_) (by rfl) rfl ?_ ?_
            rotate_left 2
            · go_simp
              constructor
              · rfl
              · rfl
            refine hK.out _ _ ⟨pw_cell_below (below1 _ _) (hHeld.1), pw_cell_below (below1 _ _) (hHeld.2.1), pw_cell_below (below1 _ _) (hHeld.2.2.1), pw_cell_below (below1 _ _) (hHeld.2.2.2.1), pw_cell_below (below1 _ _) (hHeld.2.2.2.2)⟩ (fun hHeld => ?_)
            clear hK K
            refine norm_ (a' := ?_) ?_ ?_
            rotate_left
            · show Act.put _ (some 18) _ = _
              simp only [Act.put, List.setIfInBounds_toArray, List.set_cons_zero, List.set_cons_succ, i64_w, i32_w]
              rfl
            exact norm_ (by simp only [putAll, Act.put, List.setIfInBounds_toArray, List.set_cons_zero, List.set_cons_succ]) (hCont (wb.heap.size, Ac, cc) _ ⟨(bt (bt (bt (Below.refl _ _).drew hba) hbb) (below1 _ _)), zbox_new _, ((bt (bt (Below.refl wK.heap.size wK).drew hba) hbb)).size⟩)
          · skip
            refine value_ (w1 := ?_) (v := ?_) (by rfl) rfl ?_ ?_
            rotate_left 2
            · go_simp
              constructor
              · rfl
              · rfl
            refine hK.out _ _ ⟨pw_cell_below (below1 _ _) (hHeld.1), pw_cell_below (below1 _ _) (hHeld.2.1), pw_cell_below (below1 _ _) (hHeld.2.2.1), pw_cell_below (below1 _ _) (hHeld.2.2.2.1), pw_cell_below (below1 _ _) (hHeld.2.2.2.2)⟩ (fun hHeld => ?_)
            clear hK K
            refine norm_ (a' := ?_) ?_ ?_
            rotate_left
            · show Act.put _ (some 18) _ = _
              simp only [Act.put, List.setIfInBounds_toArray, List.set_cons_zero, List.set_cons_succ, i64_w, i32_w]
              rfl
            refine one_ (i := 3) (N := some 140) #[true, true, true, true, false, false, false, true, false, false] rfl rfl (one_of HT_.out (by kernel_rfl)) (by decide) (fun K hK => ?_)
            refine goes_ Try.func16 (by kernel_rfl) rfl #[.agg #[.int .i64 nx, .slice Ac l.length cc], .agg #[.int .i64 nb, .int .i64 nx, .slice A_d (since l nb).length c_d]] (by rfl) rfl rfl (by simp only [List.map_toArray, List.map_cons, List.map_nil]; first | rfl | (refine congrArg List.toArray (congr (congrArg List.cons ?_) (congrArg (fun z => [z]) ?_)) <;> first | rfl | go_simp)) ?_
            with_reducible refine (apply_no l (since l nb) nx nb nx Ac A_d cc c_d _ qe).mono ?_
            rintro e wb ⟨rfl, hbb⟩
            refine ⟨_, rfl, ?_⟩
            refine hK.out _ _ ⟨pw_cell_below hbb (hHeld.1), pw_cell_below hbb (hHeld.2.1), pw_cell_below hbb (hHeld.2.2.1), pw_cell_below hbb (hHeld.2.2.2.1), pw_cell_below hbb (hHeld.2.2.2.2)⟩ (fun hHeld => ?_)
            clear hK K
            refine norm_ (a' := ?_) ?_ ?_
            rotate_left
            · show Act.put _ (some 140) _ = _
              simp only [Act.put, List.setIfInBounds_toArray, List.set_cons_zero, List.set_cons_succ, i64_w, i32_w]
              rfl
            refine pure_ (i := 4) (N := some 136) (v := ?_) (a' := ?_) #[true, true, true, true, true, false, false, true, false, false] rfl rfl (any_of HT_.out (by kernel_rfl)) (fun _ _ _ h => h) (Or.inl ⟨by rfl, ?_⟩) ?_ ?_
            rotate_left
            · intro w'
              go_simp
              with_reducible rfl
            rotate_left
            · simp only [Act.put, List.setIfInBounds_toArray, List.set_cons_zero, List.set_cons_succ, i64_w, i32_w]
              rfl
            refine pure_ (i := 5) (N := some 141) (v := ?_) (a' := ?_) #[true, true, true, true, true, true, false, true, false, false] rfl rfl (any_of HT_.out (by kernel_rfl)) (fun _ _ _ h => h) (Or.inl ⟨by rfl, ?_⟩) ?_ ?_
            rotate_left
            · intro w'
              go_simp
              with_reducible rfl
            rotate_left
            · simp only [Act.put, List.setIfInBounds_toArray, List.set_cons_zero, List.set_cons_succ, i64_w, i32_w]
              rfl
            refine pure_ (i := 6) (N := some 142) (v := ?_) (a' := ?_) #[true, true, true, true, true, true, true, true, false, false] rfl rfl (any_of HT_.out (by kernel_rfl)) (fun _ _ _ h => h) (Or.inl ⟨by rfl, ?_⟩) ?_ ?_
            rotate_left
            · intro w'
              go_simp
              with_reducible rfl
            rotate_left
            · simp only [Act.put, List.setIfInBounds_toArray, List.set_cons_zero, List.set_cons_succ, i64_w, i32_w]
              rfl
            exact norm_ (by simp only [putAll, Act.put, List.setIfInBounds_toArray, List.set_cons_zero, List.set_cons_succ]) (hCont (wa.heap.size, Ac, cc) _ ⟨(bt (bt (bt (Below.refl _ _).drew hba) (below1 _ _)) hbb), (zbox_new _).below hbb, ((bt (Below.refl wK.heap.size wK).drew hba)).size⟩)
        · skip
          refine value_ (w1 := ?_) (v := ?_) (by rfl) rfl ?_ ?_
          rotate_left 2
          · go_simp
            constructor
            · rfl
            · rfl
          refine hK.out _ _ ⟨pw_cell_below (below1 _ _) (hHeld.1), pw_cell_below (below1 _ _) (hHeld.2.1), pw_cell_below (below1 _ _) (hHeld.2.2.1), pw_cell_below (below1 _ _) (hHeld.2.2.2.1), pw_cell_below (below1 _ _) (hHeld.2.2.2.2)⟩ (fun hHeld => ?_)
          clear hK K
          refine norm_ (a' := ?_) ?_ ?_
          rotate_left
          · show Act.put _ (some 18) _ = _
            simp only [Act.put, List.setIfInBounds_toArray, List.set_cons_zero, List.set_cons_succ, i64_w, i32_w]
            rfl
          refine one_ (i := 1) (N := some 138) #[true, true, true, false, false, false, false, true, false, false] rfl rfl (one_of HT_.out (by kernel_rfl)) (by decide) (fun K hK => ?_)
          refine goes_ Try.func10 (by kernel_rfl) rfl #[.agg #[.int .i64 nx, .slice A l.length c]] (by rfl) rfl rfl (by simp only [List.map_toArray, List.map_cons, List.map_nil]; first | rfl | (refine congrArg List.toArray (congr (congrArg List.cons ?_) (congrArg (fun z => [z]) ?_)) <;> first | rfl | go_simp)) ?_
          with_reducible refine (copy_C l nx A c _ (Kd.C_below C_l.out (bt (bt (bt (bt (bt (bt (bt (bt (bt (bt (bt (bt (bt (bt (bt (bt (bt (bt (bt (bt N_w1.out N_w2.out) N_w3.out) N_w4.out) N_w5.out) N_w6.out) N_w7.out) N_w8.out) N_w9.out) N_wA.out) N_wB.out) N_wC.out) N_wD.out) N_wE.out) N_wF.out) N_wG.out) N_wH.out) N_wI.out) N_wJ.out) N_wK.out) (below1 _ _).drew)) hl HR).mono ?_
          rintro e wa ⟨Ac, cc, rfl, hcc, hCc, hba⟩
          refine ⟨_, rfl, ?_⟩
          refine hK.out _ _ ⟨pw_cell_below hba (hHeld.1), pw_cell_below hba (hHeld.2.1), pw_cell_below hba (hHeld.2.2.1), pw_cell_below hba (hHeld.2.2.2.1), pw_cell_below hba (hHeld.2.2.2.2)⟩ (fun hHeld => ?_)
          clear hK K
          refine norm_ (a' := ?_) ?_ ?_
          rotate_left
          · show Act.put _ (some 138) _ = _
            simp only [Act.put, List.setIfInBounds_toArray, List.set_cons_zero, List.set_cons_succ, i64_w, i32_w]
            rfl
          refine one_ (i := 3) (N := some 140) #[true, true, true, true, false, false, false, true, false, false] rfl rfl (one_of HT_.out (by kernel_rfl)) (by decide) (fun K hK => ?_)
          refine goes_ Try.func16 (by kernel_rfl) rfl #[.agg #[.int .i64 nx, .slice Ac l.length cc], .agg #[.int .i64 nb, .int .i64 nx, .slice A_d (since l nb).length c_d]] (by rfl) rfl rfl (by simp only [List.map_toArray, List.map_cons, List.map_nil]; first | rfl | (refine congrArg List.toArray (congr (congrArg List.cons ?_) (congrArg (fun z => [z]) ?_)) <;> first | rfl | go_simp)) ?_
          with_reducible refine (apply_no l (since l nb) nx nb nx Ac A_d cc c_d _ qe).mono ?_
          rintro e wb ⟨rfl, hbb⟩
          refine ⟨_, rfl, ?_⟩
          refine hK.out _ _ ⟨pw_cell_below hbb (hHeld.1), pw_cell_below hbb (hHeld.2.1), pw_cell_below hbb (hHeld.2.2.1), pw_cell_below hbb (hHeld.2.2.2.1), pw_cell_below hbb (hHeld.2.2.2.2)⟩ (fun hHeld => ?_)
          clear hK K
          refine norm_ (a' := ?_) ?_ ?_
          rotate_left
          · show Act.put _ (some 140) _ = _
            simp only [Act.put, List.setIfInBounds_toArray, List.set_cons_zero, List.set_cons_succ, i64_w, i32_w]
            rfl
          refine pure_ (i := 4) (N := some 136) (v := ?_) (a' := ?_) #[true, true, true, true, true, false, false, true, false, false] rfl rfl (any_of HT_.out (by kernel_rfl)) (fun _ _ _ h => h) (Or.inl ⟨by rfl, ?_⟩) ?_ ?_
          rotate_left
          · intro w'
            go_simp
            with_reducible rfl
          rotate_left
          · simp only [Act.put, List.setIfInBounds_toArray, List.set_cons_zero, List.set_cons_succ, i64_w, i32_w]
            rfl
          refine pure_ (i := 5) (N := some 141) (v := ?_) (a' := ?_) #[true, true, true, true, true, true, false, true, false, false] rfl rfl (any_of HT_.out (by kernel_rfl)) (fun _ _ _ h => h) (Or.inl ⟨by rfl, ?_⟩) ?_ ?_
          rotate_left
          · intro w'
            go_simp
            with_reducible rfl
          rotate_left
          · simp only [Act.put, List.setIfInBounds_toArray, List.set_cons_zero, List.set_cons_succ, i64_w, i32_w]
            rfl
          refine pure_ (i := 6) (N := some 142) (v := ?_) (a' := ?_) #[true, true, true, true, true, true, true, true, false, false] rfl rfl (any_of HT_.out (by kernel_rfl)) (fun _ _ _ h => h) (Or.inl ⟨by rfl, ?_⟩) ?_ ?_
          rotate_left
          · intro w'
            go_simp
            with_reducible rfl
          rotate_left
          · simp only [Act.put, List.setIfInBounds_toArray, List.set_cons_zero, List.set_cons_succ, i64_w, i32_w]
            rfl
          exact norm_ (by simp only [putAll, Act.put, List.setIfInBounds_toArray, List.set_cons_zero, List.set_cons_succ]) (hCont (wK.heap.size, Ac, cc) _ ⟨(bt (bt (below1 _ _).drew hba) hbb), (((zbox_new wK).below (Below.refl _ _).drew).below hba).below hbb, Nat.le_refl _⟩)
      rintro ⟨g22, Ac22, cc22⟩ wx22 ⟨hF1, hF2, hF3⟩
      have k0 := hF2.c0
      have k1 := hF2.c1
      have kf := hF2.fr
      refine norm_ (a' := ?_) ?_ ?_
      rotate_left
      · simp only [putAll, Act.put, List.setIfInBounds_toArray, List.set_cons_zero, List.set_cons_succ]
        rfl
      refine last_ (i := 8) (N := none) #[true, true, true, true, true, true, true, true, true, false] rfl rfl (one_of HT_.out (by kernel_rfl)) (by decide) (fun K hK => ?_)
      refine skip_ (w1 := ?_) (by rfl) rfl ?_ ?_
      rotate_left
      · go_simp
        rfl
      refine hK.out _ _ ?_
      clear hK K
      refine pure_ (i := 9) (N := some 19) (v := ?_) (a' := ?_) #[true, true, true, true, true, true, true, true, true, true] rfl rfl (any_of HT_.out (by kernel_rfl)) (fun _ _ _ h => h) (Or.inl ⟨by rfl, ?_⟩) ?_ ?_
      rotate_left
      · intro w'
        go_simp
        with_reducible rfl
      rotate_left
      · simp only [Act.put, List.setIfInBounds_toArray, List.set_cons_zero, List.set_cons_succ, i64_w, i32_w]
        rfl
      refine done_ (done_of HT_.out (by kernel_rfl)) ?_
      obtain ⟨hs1, hs2, hs3⟩ := stored0 hF1 hF2 hF3
      generalize ((wx22.setCell ⟨g22, 0, none⟩ (.int .i64 0)).setCell ⟨g22, 1, none⟩ (.slice none 0 0)) = wM at *
      clear hF1 hF2 hF3 k0 k1 kf
      have N_wM := Lib.hid hs1
      have V_v_0 : World.cell? wM ⟨w.heap.size, 0, none⟩ = some (.int .i64 nx) := pw_cell_below (bt (bt (bt (bt (bt (bt (bt (bt (bt (bt (bt (bt (bt (bt (bt (bt (bt (bt (bt N_w2.out N_w3.out) N_w4.out) N_w5.out) N_w6.out) N_w7.out) N_w8.out) N_w9.out) N_wA.out) N_wB.out) N_wC.out) N_wD.out) N_wE.out) N_wF.out) N_wG.out) N_wH.out) N_wI.out) N_wJ.out) N_wK.out) N_wM.out) B_v_0.out
      have V_v_1 : World.cell? wM ⟨w.heap.size, 1, none⟩ = some (.slice A l.length c) := pw_cell_below (bt (bt (bt (bt (bt (bt (bt (bt (bt (bt (bt (bt (bt (bt (bt (bt (bt (bt (bt N_w2.out N_w3.out) N_w4.out) N_w5.out) N_w6.out) N_w7.out) N_w8.out) N_w9.out) N_wA.out) N_wB.out) N_wC.out) N_wD.out) N_wE.out) N_wF.out) N_wG.out) N_wH.out) N_wI.out) N_wJ.out) N_wK.out) N_wM.out) B_v_1.out
      go_wp2_with (first
        | (go_at_call 18; (with_reducible refine (same_0 _).mono ?_; rintro e wN ⟨rfl, hb⟩; clear V_v_0 V_v_1; have N_wN := Lib.hid (bt (x := wM) (Below.refl _ _) hb); clear hb))
        )
      go_ret
      exact ⟨rfl, (bt (bt (bt (bt (bt (bt (bt (bt (bt (bt (bt (bt (bt (bt (bt (bt (bt (bt (bt (bt (bt N_w1.out N_w2.out) N_w3.out) N_w4.out) N_w5.out) N_w6.out) N_w7.out) N_w8.out) N_w9.out) N_wA.out) N_wB.out) N_wC.out) N_wD.out) N_wE.out) N_wF.out) N_wG.out) N_wH.out) N_wI.out) N_wJ.out) N_wK.out) N_wM.out) N_wN.out)⟩
  · have t0 : decide (nb < ma) = false := decide_eq_false q
    have hmn : ma ≤ nb := by omega
    have q1 : 1 ≤ ma := by omega
    have q2 : nb ≤ nx := by omega
    clear hA hB q
    have rt := hR
    have HRn : Room (lower l nb) := room_filter HR _
    have HRm : Room (lower l ma) := room_filter HR _
    have HR_d : Room (since l ma) := room_filter HR _
    have HR_o : Room (since (lower l nb) ma) := room_filter HRn _
    have HR_t : Room (since l nb) := room_filter HR _
    have rtn := rt.lower (Int.le_trans q1 hmn) q2
    have hd1 := dRight_since rt q1 (Int.le_trans hmn q2)
    have hd2 := dRight_since rtn q1 hmn
    have hd3 := dRight_since rt (Int.le_trans q1 hmn) q2
    have V_v_0 : World.cell? w3 ⟨w.heap.size, 0, none⟩ = some (.int .i64 nx) := pw_cell_below (bt N_w2.out N_w3.out) B_v_0.out
    have V_v_1 : World.cell? w3 ⟨w.heap.size, 1, none⟩ = some (.slice A l.length c) := pw_cell_below (bt N_w2.out N_w3.out) B_v_1.out
    go_upto_region 15 with (first
      | (go_at_call 20; (with_reducible refine (below_C l nx ma A c _ (Kd.C_below C_l.out (bt (bt N_w1.out N_w2.out) N_w3.out)) hl HR).mono ?_; rintro e w4 ⟨A_u, c_u, rfl, hl_, hC_, hb⟩; clear V_v_0 V_v_1; have N_w4 := Lib.hid (bt (x := w3) (Below.refl _ _) hb); have C_u := Lib.hid hC_; have hl_u := hl_; clear hC_ hl_; have V_v_0 : World.cell? (World.alloc w4 (.cells #[.int .i64 ma, .slice A_u (lower l ma).length c_u] 24)) ⟨w.heap.size, 0, none⟩ = some (.int .i64 nx) := pw_cell_below (below1 w4 _) (pw_cell_below (bt (bt N_w2.out N_w3.out) N_w4.out) B_v_0.out); have V_v_1 : World.cell? (World.alloc w4 (.cells #[.int .i64 ma, .slice A_u (lower l ma).length c_u] 24)) ⟨w.heap.size, 1, none⟩ = some (.slice A l.length c) := pw_cell_below (below1 w4 _) (pw_cell_below (bt (bt N_w2.out N_w3.out) N_w4.out) B_v_1.out); clear hb))
      | (go_at_call 20; (with_reducible refine (below_C l nx nb A c _ (Kd.C_below C_l.out (bt (bt (bt (bt N_w1.out N_w2.out) N_w3.out) N_w4.out) (below1 _ _))) hl HR).mono ?_; rintro e w5 ⟨A_k, c_k, rfl, hl_, hC_, hb⟩; clear V_v_0 V_v_1; have N_w5 := Lib.hid (bt (x := w4) (below1 _ _) hb); have B_u_0 : Hid (World.cell? w5 ⟨w4.heap.size, 0, none⟩ = some (.int .i64 ma)) := Lib.hid (box_cell hb (i := 0) rfl); have B_u_1 : Hid (World.cell? w5 ⟨w4.heap.size, 1, none⟩ = some (.slice A_u (lower l ma).length c_u)) := Lib.hid (box_cell hb (i := 1) rfl); have C_k := Lib.hid hC_; have hl_k := hl_; clear hC_ hl_; have V_v_0 : World.cell? (World.alloc w5 (.cells #[.int .i64 nb, .slice A_k (lower l nb).length c_k] 24)) ⟨w.heap.size, 0, none⟩ = some (.int .i64 nx) := pw_cell_below (below1 w5 _) (pw_cell_below (bt (bt (bt N_w2.out N_w3.out) N_w4.out) N_w5.out) B_v_0.out); have V_v_1 : World.cell? (World.alloc w5 (.cells #[.int .i64 nb, .slice A_k (lower l nb).length c_k] 24)) ⟨w.heap.size, 1, none⟩ = some (.slice A l.length c) := pw_cell_below (below1 w5 _) (pw_cell_below (bt (bt (bt N_w2.out N_w3.out) N_w4.out) N_w5.out) B_v_1.out); clear hb))
      | (go_at_call 10; (with_reducible refine (copy_C l nx A c _ (Kd.C_below C_l.out (bt (bt (bt (bt (bt N_w1.out N_w2.out) N_w3.out) N_w4.out) N_w5.out) (below1 _ _))) hl HR).mono ?_; rintro e w6 ⟨A_1, c_1, rfl, hl_, hC_, hb⟩; clear V_v_0 V_v_1; have N_w6 := Lib.hid (bt (x := w5) (below1 _ _) hb); have B_k_0 : Hid (World.cell? w6 ⟨w5.heap.size, 0, none⟩ = some (.int .i64 nb)) := Lib.hid (box_cell hb (i := 0) rfl); have B_k_1 : Hid (World.cell? w6 ⟨w5.heap.size, 1, none⟩ = some (.slice A_k (lower l nb).length c_k)) := Lib.hid (box_cell hb (i := 1) rfl); have C_k1 := Lib.hid hC_; have hl_k1 := hl_; clear hC_ hl_; clear hb))
      | (go_at_call 9; (with_reducible refine (since_C l nx ma A_1 c_1 _ (Kd.C_below C_k1.out (Below.refl _ _)) hl_k1 HR q1 (Int.le_trans hmn q2)).mono ?_; rintro e w7 ⟨A_d, c_d, rfl, hl_, hC_, hb⟩; have N_w7 := Lib.hid (bt (x := w6) (Below.refl _ _) hb); have C_d := Lib.hid hC_; have hl_d := hl_; clear hC_ hl_; have V_k_0 : World.cell? (World.alloc w7 (.cells #[.int .i64 ma, .int .i64 nx, .slice A_d (since l ma).length c_d] 27)) ⟨w5.heap.size, 0, none⟩ = some (.int .i64 nb) := pw_cell_below (below1 w7 _) (pw_cell_below N_w7.out B_k_0.out); have V_k_1 : World.cell? (World.alloc w7 (.cells #[.int .i64 ma, .int .i64 nx, .slice A_d (since l ma).length c_d] 27)) ⟨w5.heap.size, 1, none⟩ = some (.slice A_k (lower l nb).length c_k) := pw_cell_below (below1 w7 _) (pw_cell_below N_w7.out B_k_1.out); clear hb))
      | (go_at_call 10; (with_reducible refine (copy_C (lower l nb) nb A_k c_k _ (Kd.C_below C_k.out (bt (bt N_w6.out N_w7.out) (below1 _ _))) hl_k HRn).mono ?_; rintro e w8 ⟨A_2, c_2, rfl, hl_, hC_, hb⟩; clear V_k_0 V_k_1; have N_w8 := Lib.hid (bt (x := w7) (below1 _ _) hb); have B_d_0 : Hid (World.cell? w8 ⟨w7.heap.size, 0, none⟩ = some (.int .i64 ma)) := Lib.hid (box_cell hb (i := 0) rfl); have B_d_1 : Hid (World.cell? w8 ⟨w7.heap.size, 1, none⟩ = some (.int .i64 nx)) := Lib.hid (box_cell hb (i := 1) rfl); have B_d_2 : Hid (World.cell? w8 ⟨w7.heap.size, 2, none⟩ = some (.slice A_d (since l ma).length c_d)) := Lib.hid (box_cell hb (i := 2) rfl); have C_k2 := Lib.hid hC_; have hl_k2 := hl_; clear hC_ hl_; clear hb))
      | (go_at_call 9; (with_reducible refine (since_C (lower l nb) nb ma A_2 c_2 _ (Kd.C_below C_k2.out (Below.refl _ _)) hl_k2 HRn q1 hmn).mono ?_; rintro e w9 ⟨A_o, c_o, rfl, hl_, hC_, hb⟩; have N_w9 := Lib.hid (bt (x := w8) (Below.refl _ _) hb); have C_o := Lib.hid hC_; have hl_o := hl_; clear hC_ hl_; have V_v_0 : World.cell? (World.alloc w9 (.cells #[.int .i64 ma, .int .i64 nb, .slice A_o (since (lower l nb) ma).length c_o] 27)) ⟨w.heap.size, 0, none⟩ = some (.int .i64 nx) := pw_cell_below (below1 w9 _) (pw_cell_below (bt (bt (bt (bt (bt (bt (bt N_w2.out N_w3.out) N_w4.out) N_w5.out) N_w6.out) N_w7.out) N_w8.out) N_w9.out) B_v_0.out); have V_v_1 : World.cell? (World.alloc w9 (.cells #[.int .i64 ma, .int .i64 nb, .slice A_o (since (lower l nb) ma).length c_o] 27)) ⟨w.heap.size, 1, none⟩ = some (.slice A l.length c) := pw_cell_below (below1 w9 _) (pw_cell_below (bt (bt (bt (bt (bt (bt (bt N_w2.out N_w3.out) N_w4.out) N_w5.out) N_w6.out) N_w7.out) N_w8.out) N_w9.out) B_v_1.out); clear hb))
      | (go_at_call 10; (with_reducible refine (copy_C l nx A c _ (Kd.C_below C_l.out (bt (bt (bt (bt (bt (bt (bt (bt (bt N_w1.out N_w2.out) N_w3.out) N_w4.out) N_w5.out) N_w6.out) N_w7.out) N_w8.out) N_w9.out) (below1 _ _))) hl HR).mono ?_; rintro e wA ⟨A_3, c_3, rfl, hl_, hC_, hb⟩; clear V_v_0 V_v_1; have N_wA := Lib.hid (bt (x := w9) (below1 _ _) hb); have B_o_0 : Hid (World.cell? wA ⟨w9.heap.size, 0, none⟩ = some (.int .i64 ma)) := Lib.hid (box_cell hb (i := 0) rfl); have B_o_1 : Hid (World.cell? wA ⟨w9.heap.size, 1, none⟩ = some (.int .i64 nb)) := Lib.hid (box_cell hb (i := 1) rfl); have B_o_2 : Hid (World.cell? wA ⟨w9.heap.size, 2, none⟩ = some (.slice A_o (since (lower l nb) ma).length c_o)) := Lib.hid (box_cell hb (i := 2) rfl); have C_k3 := Lib.hid hC_; have hl_k3 := hl_; clear hC_ hl_; clear hb))
      | (go_at_call 9; (with_reducible refine (since_C l nx nb A_3 c_3 _ (Kd.C_below C_k3.out (Below.refl _ _)) hl_k3 HR (Int.le_trans q1 hmn) q2).mono ?_; rintro e wB ⟨A_t, c_t, rfl, hl_, hC_, hb⟩; have N_wB := Lib.hid (bt (x := wA) (Below.refl _ _) hb); have C_t := Lib.hid hC_; have hl_t := hl_; clear hC_ hl_; have V_d_0 : World.cell? (World.alloc wB (.cells #[.int .i64 nb, .int .i64 nx, .slice A_t (since l nb).length c_t] 27)) ⟨w7.heap.size, 0, none⟩ = some (.int .i64 ma) := pw_cell_below (below1 wB _) (pw_cell_below (bt (bt N_w9.out N_wA.out) N_wB.out) B_d_0.out); have V_d_1 : World.cell? (World.alloc wB (.cells #[.int .i64 nb, .int .i64 nx, .slice A_t (since l nb).length c_t] 27)) ⟨w7.heap.size, 1, none⟩ = some (.int .i64 nx) := pw_cell_below (below1 wB _) (pw_cell_below (bt (bt N_w9.out N_wA.out) N_wB.out) B_d_1.out); have V_d_2 : World.cell? (World.alloc wB (.cells #[.int .i64 nb, .int .i64 nx, .slice A_t (since l nb).length c_t] 27)) ⟨w7.heap.size, 2, none⟩ = some (.slice A_d (since l ma).length c_d) := pw_cell_below (below1 wB _) (pw_cell_below (bt (bt N_w9.out N_wA.out) N_wB.out) B_d_2.out); clear hb))
      | (go_at_call 15; (with_reducible refine (dRight_C (since l ma) nx ma A_d c_d _ (Kd.C_below C_d.out (bt (bt (bt (bt N_w8.out N_w9.out) N_wA.out) N_wB.out) (below1 _ _))) hl_d HR_d hd1).mono ?_; rintro e wC ⟨rfl, hb⟩; clear V_d_0 V_d_1 V_d_2; have N_wC := Lib.hid (bt (x := wB) (below1 _ _) hb); have B_t_0 : Hid (World.cell? wC ⟨wB.heap.size, 0, none⟩ = some (.int .i64 nb)) := Lib.hid (box_cell hb (i := 0) rfl); have B_t_1 : Hid (World.cell? wC ⟨wB.heap.size, 1, none⟩ = some (.int .i64 nx)) := Lib.hid (box_cell hb (i := 1) rfl); have B_t_2 : Hid (World.cell? wC ⟨wB.heap.size, 2, none⟩ = some (.slice A_t (since l nb).length c_t)) := Lib.hid (box_cell hb (i := 2) rfl); have V_o_0 : World.cell? wC ⟨w9.heap.size, 0, none⟩ = some (.int .i64 ma) := pw_cell_below (bt N_wB.out N_wC.out) B_o_0.out; have V_o_1 : World.cell? wC ⟨w9.heap.size, 1, none⟩ = some (.int .i64 nb) := pw_cell_below (bt N_wB.out N_wC.out) B_o_1.out; have V_o_2 : World.cell? wC ⟨w9.heap.size, 2, none⟩ = some (.slice A_o (since (lower l nb) ma).length c_o) := pw_cell_below (bt N_wB.out N_wC.out) B_o_2.out; clear hb))
      | (go_at_call 15; (with_reducible refine (dRight_C (since (lower l nb) ma) nb ma A_o c_o _ (Kd.C_below C_o.out (bt (bt N_wA.out N_wB.out) N_wC.out)) hl_o HR_o hd2).mono ?_; rintro e wD ⟨rfl, hb⟩; clear V_o_0 V_o_1 V_o_2; have N_wD := Lib.hid (bt (x := wC) (Below.refl _ _) hb); have V_t_0 : World.cell? wD ⟨wB.heap.size, 0, none⟩ = some (.int .i64 nb) := pw_cell_below N_wD.out B_t_0.out; have V_t_1 : World.cell? wD ⟨wB.heap.size, 1, none⟩ = some (.int .i64 nx) := pw_cell_below N_wD.out B_t_1.out; have V_t_2 : World.cell? wD ⟨wB.heap.size, 2, none⟩ = some (.slice A_t (since l nb).length c_t) := pw_cell_below N_wD.out B_t_2.out; clear hb))
      | (go_at_call 15; (with_reducible refine (dRight_C (since l nb) nx nb A_t c_t _ (Kd.C_below C_t.out (bt N_wC.out N_wD.out)) hl_t HR_t hd3).mono ?_; rintro e wE ⟨rfl, hb⟩; clear V_t_0 V_t_1 V_t_2; have N_wE := Lib.hid (bt (x := wD) (Below.refl _ _) hb); clear hb))
      )
    refine start_ (n := 10) (S := fun w' => w'.cell? ⟨w4.heap.size, 0, none⟩ = some (.int .i64 ma) ∧ w'.cell? ⟨w4.heap.size, 1, none⟩ = some (.slice A_u (lower l ma).length c_u) ∧ w'.cell? ⟨w7.heap.size, 0, none⟩ = some (.int .i64 ma) ∧ w'.cell? ⟨w7.heap.size, 1, none⟩ = some (.int .i64 nx) ∧ w'.cell? ⟨w7.heap.size, 2, none⟩ = some (.slice A_d (since l ma).length c_d)) (ds := [8]) #[false, false, false, false, false, false, false, false, false, false] (by kernel_rfl) rfl rfl ⟨pw_cell_below (bt (bt (bt (bt (bt (bt (bt (bt (bt N_w6.out N_w7.out) N_w8.out) N_w9.out) N_wA.out) N_wB.out) N_wC.out) N_wD.out) N_wE.out) (Below.refl _ _).drew) B_u_0.out, pw_cell_below (bt (bt (bt (bt (bt (bt (bt (bt (bt N_w6.out N_w7.out) N_w8.out) N_w9.out) N_wA.out) N_wB.out) N_wC.out) N_wD.out) N_wE.out) (Below.refl _ _).drew) B_u_1.out, pw_cell_below (bt (bt (bt (bt (bt (bt N_w9.out N_wA.out) N_wB.out) N_wC.out) N_wD.out) N_wE.out) (Below.refl _ _).drew) B_d_0.out, pw_cell_below (bt (bt (bt (bt (bt (bt N_w9.out N_wA.out) N_wB.out) N_wC.out) N_wD.out) N_wE.out) (Below.refl _ _).drew) B_d_1.out, pw_cell_below (bt (bt (bt (bt (bt (bt N_w9.out N_wA.out) N_wB.out) N_wC.out) N_wD.out) N_wE.out) (Below.refl _ _).drew) B_d_2.out⟩ (fun hHeld => ?_)
    refine with_tabW fW.tab15 fW.bits15 (fun HT_ HW_ => ?_)
    refine take_ (i := 0) (N := some 91) (v := ?_) (a' := ?_) #[true, false, false, false, false, false, false, false, false, false] rfl rfl (take_ofW HT_.out HW_.out (by kernel_rfl)) (fun _ _ _ h => h) (Or.inl ⟨by rfl, ?_⟩) hHeld ?_ ?_
    rotate_left
    · rintro w' ⟨s0, s1, s2, s3, s4⟩
      go_simp
      with_reducible rfl
    rotate_left
    · simp only [Act.put, List.setIfInBounds_toArray, List.set_cons_zero, List.set_cons_succ, i64_w, i32_w]
      rfl
    refine take_ (i := 2) (N := some 93) (v := ?_) (a' := ?_) #[true, false, true, false, false, false, false, false, false, false] rfl rfl (take_ofW HT_.out HW_.out (by kernel_rfl)) (fun _ _ _ h => h) (Or.inl ⟨by rfl, ?_⟩) hHeld ?_ ?_
    rotate_left
    · rintro w' ⟨s0, s1, s2, s3, s4⟩
      go_simp
      with_reducible rfl
    rotate_left
    · simp only [Act.put, List.setIfInBounds_toArray, List.set_cons_zero, List.set_cons_succ, i64_w, i32_w]
      rfl
    refine join_ (σ := Nat × Option Addr × Nat × Option Addr × Nat) 2 #[true, true, true, true, true, true, true, true, false, false] (fun s => [(92, .agg #[.int .i64 ma, .slice s.2.1 (lower l ma).length s.2.2.1]), (94, .tuple #[.agg #[.int .i64 nx, .slice s.2.2.2.1 l.length s.2.2.2.2], .int .i64 0]), (90, .tuple #[.agg #[.int .i64 nx, .slice s.2.2.2.1 l.length s.2.2.2.2], .int .i64 0]), (95, .agg #[.int .i64 nx, .slice s.2.2.2.1 l.length s.2.2.2.2]), (96, .int .i64 0), (15, .pointer (some ⟨s.1, 0, none⟩))]) (fun s w' => (Below wE.heap.size wE w' ∧ Zbox w' s.1 ∧ wE.heap.size ≤ s.1 ∧ kVn.R 48 w' wE.heap.size (fun k => k ≠ s.1) (.slice s.2.2.2.1 l.length s.2.2.2.2) l)) ?_ ?_
    rotate_left
    · intro hCont
      refine two_ (i := 1) (j := 7) (Ni := some 92) (Nj := some 15) #[true, true, true, false, false, false, false, false, false, false] #[true, false, true, false, false, false, false, true, false, false] rfl rfl rfl rfl (two_of HT_.out (by kernel_rfl)) (by decide) (by decide) (fun K hK => ?_) (fun K hK => ?_)
      · skip
        refine goes_ Try.func10 (by kernel_rfl) rfl #[.agg #[.int .i64 ma, .slice A_u (lower l ma).length c_u]] (by rfl) rfl rfl (by simp only [List.map_toArray, List.map_cons, List.map_nil]; first | rfl | (refine congrArg List.toArray (congr (congrArg List.cons ?_) (congrArg (fun z => [z]) ?_)) <;> first | rfl | go_simp)) ?_
        with_reducible refine (copy_C (lower l ma) ma A_u c_u _ (Kd.C_below C_u.out (bt (bt (bt (bt (bt (bt (bt (bt (bt (bt N_w5.out N_w6.out) N_w7.out) N_w8.out) N_w9.out) N_wA.out) N_wB.out) N_wC.out) N_wD.out) N_wE.out) (Below.refl _ _).drew)) hl_u HRm).mono ?_
        rintro e wa ⟨Ac, cc, rfl, hcc, hCc, hba⟩
        refine ⟨_, rfl, ?_⟩
        refine hK.out _ _ ⟨pw_cell_below hba (hHeld.1), pw_cell_below hba (hHeld.2.1), pw_cell_below hba (hHeld.2.2.1), pw_cell_below hba (hHeld.2.2.2.1), pw_cell_below hba (hHeld.2.2.2.2)⟩ (fun hHeld => ?_)
        clear hK K
        refine norm_ (a' := ?_) ?_ ?_
        rotate_left
        · show Act.put _ (some 92) _ = _
          simp only [Act.put, List.setIfInBounds_toArray, List.set_cons_zero, List.set_cons_succ, i64_w, i32_w]
          rfl
        refine two_ (i := 3) (j := 7) (Ni := some 94) (Nj := some 15) #[true, true, true, true, false, false, false, false, false, false] #[true, true, true, false, false, false, false, true, false, false] rfl rfl rfl rfl (two_of HT_.out (by kernel_rfl)) (by decide) (by decide) (fun K hK => ?_) (fun K hK => ?_)
        · skip
          refine goes_ Try.func16 (by kernel_rfl) rfl #[.agg #[.int .i64 ma, .slice Ac (lower l ma).length cc], .agg #[.int .i64 ma, .int .i64 nx, .slice A_d (since l ma).length c_d]] (by rfl) rfl rfl (by simp only [List.map_toArray, List.map_cons, List.map_nil]; first | rfl | (refine congrArg List.toArray (congr (congrArg List.cons ?_) (congrArg (fun z => [z]) ?_)) <;> first | rfl | go_simp)) ?_
          with_reducible refine (apply_R (lower l ma) (since l ma) l ma nx Ac A_d cc c_d _ (Kd.C_below hCc (Below.refl _ _)) hcc HRm (Kd.C_below C_d.out (bt (bt (bt (bt (bt (bt (bt N_w8.out N_w9.out) N_wA.out) N_wB.out) N_wC.out) N_wD.out) N_wE.out) (bt (Below.refl _ _).drew hba))) hl_d HR_d (bytes_since rt ma).1 (bytes_since rt ma).2 (mrg_all rt ma)).mono ?_
          rintro e wb ⟨Ax, cx, rfl, hcx, hRx, hbb⟩
          refine ⟨_, rfl, ?_⟩
          refine hK.out _ _ ⟨pw_cell_below hbb (hHeld.1), pw_cell_below hbb (hHeld.2.1), pw_cell_below hbb (hHeld.2.2.1), pw_cell_below hbb (hHeld.2.2.2.1), pw_cell_below hbb (hHeld.2.2.2.2)⟩ (fun hHeld => ?_)
          clear hK K
          refine norm_ (a' := ?_) ?_ ?_
          rotate_left
          · show Act.put _ (some 94) _ = _
            simp only [Act.put, List.setIfInBounds_toArray, List.set_cons_zero, List.set_cons_succ, i64_w, i32_w]
            rfl
          refine pure_ (i := 4) (N := some 90) (v := ?_) (a' := ?_) #[true, true, true, true, true, false, false, false, false, false] rfl rfl (any_of HT_.out (by kernel_rfl)) (fun _ _ _ h => h) (Or.inl ⟨by rfl, ?_⟩) ?_ ?_
          rotate_left
          · intro w'
            go_simp
            with_reducible rfl
          rotate_left
          · simp only [Act.put, List.setIfInBounds_toArray, List.set_cons_zero, List.set_cons_succ, i64_w, i32_w]
            rfl
          refine pure_ (i := 5) (N := some 95) (v := ?_) (a' := ?_) #[true, true, true, true, true, true, false, false, false, false] rfl rfl (any_of HT_.out (by kernel_rfl)) (fun _ _ _ h => h) (Or.inl ⟨by rfl, ?_⟩) ?_ ?_
          rotate_left
          · intro w'
            go_simp
            with_reducible rfl
          rotate_left
          · simp only [Act.put, List.setIfInBounds_toArray, List.set_cons_zero, List.set_cons_succ, i64_w, i32_w]
            rfl
          refine pure_ (i := 6) (N := some 96) (v := ?_) (a' := ?_) #[true, true, true, true, true, true, true, false, false, false] rfl rfl (any_of HT_.out (by kernel_rfl)) (fun _ _ _ h => h) (Or.inl ⟨by rfl, ?_⟩) ?_ ?_
          rotate_left
          · intro w'
            go_simp
            with_reducible rfl
          rotate_left
          · simp only [Act.put, List.setIfInBounds_toArray, List.set_cons_zero, List.set_cons_succ, i64_w, i32_w]
            rfl
          refine one_ (i := 7) (N := some 15) #[true, true, true, true, true, true, true, true, false, false] rfl rfl (one_of HT_.out (by kernel_rfl)) (by decide) (fun K hK => ?_)
          refine value_ (w1 := ?_) (v := ?_) (by rfl) rfl ?_ ?_
          rotate_left 2
          · go_simp
            constructor
            · rfl
            · rfl
          refine hK.out _ _ ⟨pw_cell_below (below1 _ _) (hHeld.1), pw_cell_below (below1 _ _) (hHeld.2.1), pw_cell_below (below1 _ _) (hHeld.2.2.1), pw_cell_below (below1 _ _) (hHeld.2.2.2.1), pw_cell_below (below1 _ _) (hHeld.2.2.2.2)⟩ (fun hHeld => ?_)
          clear hK K
          refine norm_ (a' := ?_) ?_ ?_
          rotate_left
          · show Act.put _ (some 15) _ = _
            simp only [Act.put, List.setIfInBounds_toArray, List.set_cons_zero, List.set_cons_succ, i64_w, i32_w]
            rfl
          exact norm_ (by simp only [putAll, Act.put, List.setIfInBounds_toArray, List.set_cons_zero, List.set_cons_succ]) (hCont (wb.heap.size, Ac, cc, Ax, cx) _ ⟨(bt (bt (bt (Below.refl _ _).drew hba) hbb) (below1 _ _)), zbox_new _, ((bt (bt (Below.refl wE.heap.size wE).drew hba) hbb)).size, r_new hRx (show wE.heap.size ≤ wa.heap.size from ((bt (Below.refl wE.heap.size wE).drew hba)).size) _⟩)
        · skip
          refine value_ (w1 := ?_) (v := ?_) (by rfl) rfl ?_ ?_
          rotate_left 2
          · go_simp
            constructor
            · rfl
            · rfl
          refine hK.out _ _ ⟨pw_cell_below (below1 _ _) (hHeld.1), pw_cell_below (below1 _ _) (hHeld.2.1), pw_cell_below (below1 _ _) (hHeld.2.2.1), pw_cell_below (below1 _ _) (hHeld.2.2.2.1), pw_cell_below (below1 _ _) (hHeld.2.2.2.2)⟩ (fun hHeld => ?_)
          clear hK K
          refine norm_ (a' := ?_) ?_ ?_
          rotate_left
          · show Act.put _ (some 15) _ = _
            simp only [Act.put, List.setIfInBounds_toArray, List.set_cons_zero, List.set_cons_succ, i64_w, i32_w]
            rfl
          refine one_ (i := 3) (N := some 94) #[true, true, true, true, false, false, false, true, false, false] rfl rfl (one_of HT_.out (by kernel_rfl)) (by decide) (fun K hK => ?_)
          refine goes_ Try.func16 (by kernel_rfl) rfl #[.agg #[.int .i64 ma, .slice Ac (lower l ma).length cc], .agg #[.int .i64 ma, .int .i64 nx, .slice A_d (since l ma).length c_d]] (by rfl) rfl rfl (by simp only [List.map_toArray, List.map_cons, List.map_nil]; first | rfl | (refine congrArg List.toArray (congr (congrArg List.cons ?_) (congrArg (fun z => [z]) ?_)) <;> first | rfl | go_simp)) ?_
          with_reducible refine (apply_R (lower l ma) (since l ma) l ma nx Ac A_d cc c_d _ (Kd.C_below hCc (below1 _ _)) hcc HRm (Kd.C_below C_d.out (bt (bt (bt (bt (bt (bt (bt N_w8.out N_w9.out) N_wA.out) N_wB.out) N_wC.out) N_wD.out) N_wE.out) (bt (bt (Below.refl _ _).drew hba) (below1 _ _)))) hl_d HR_d (bytes_since rt ma).1 (bytes_since rt ma).2 (mrg_all rt ma)).mono ?_
          rintro e wb ⟨Ax, cx, rfl, hcx, hRx, hbb⟩
          refine ⟨_, rfl, ?_⟩
          refine hK.out _ _ ⟨pw_cell_below hbb (hHeld.1), pw_cell_below hbb (hHeld.2.1), pw_cell_below hbb (hHeld.2.2.1), pw_cell_below hbb (hHeld.2.2.2.1), pw_cell_below hbb (hHeld.2.2.2.2)⟩ (fun hHeld => ?_)
          clear hK K
          refine norm_ (a' := ?_) ?_ ?_
          rotate_left
          · show Act.put _ (some 94) _ = _
            simp only [Act.put, List.setIfInBounds_toArray, List.set_cons_zero, List.set_cons_succ, i64_w, i32_w]
            rfl
          refine pure_ (i := 4) (N := some 90) (v := ?_) (a' := ?_) #[true, true, true, true, true, false, false, true, false, false] rfl rfl (any_of HT_.out (by kernel_rfl)) (fun _ _ _ h => h) (Or.inl ⟨by rfl, ?_⟩) ?_ ?_
          rotate_left
          · intro w'
            go_simp
            with_reducible rfl
          rotate_left
          · simp only [Act.put, List.setIfInBounds_toArray, List.set_cons_zero, List.set_cons_succ, i64_w, i32_w]
            rfl
          refine pure_ (i := 5) (N := some 95) (v := ?_) (a' := ?_) #[true, true, true, true, true, true, false, true, false, false] rfl rfl (any_of HT_.out (by kernel_rfl)) (fun _ _ _ h => h) (Or.inl ⟨by rfl, ?_⟩) ?_ ?_
          rotate_left
          · intro w'
            go_simp
            with_reducible rfl
          rotate_left
          · simp only [Act.put, List.setIfInBounds_toArray, List.set_cons_zero, List.set_cons_succ, i64_w, i32_w]
            rfl
          refine pure_ (i := 6) (N := some 96) (v := ?_) (a' := ?_) #[true, true, true, true, true, true, true, true, false, false] rfl rfl (any_of HT_.out (by kernel_rfl)) (fun _ _ _ h => h) (Or.inl ⟨by rfl, ?_⟩) ?_ ?_
          rotate_left
          · intro w'
            go_simp
            with_reducible rfl
          rotate_left
          · simp only [Act.put, List.setIfInBounds_toArray, List.set_cons_zero, List.set_cons_succ, i64_w, i32_w]
            rfl
          exact norm_ (by simp only [putAll, Act.put, List.setIfInBounds_toArray, List.set_cons_zero, List.set_cons_succ]) (hCont (wa.heap.size, Ac, cc, Ax, cx) _ ⟨(bt (bt (bt (Below.refl _ _).drew hba) (below1 _ _)) hbb), (zbox_new _).below hbb, ((bt (Below.refl wE.heap.size wE).drew hba)).size, r_low hRx ((bt (bt (Below.refl wE.heap.size wE).drew hba) (below1 wa _))).size (by rw [alloc_size]; exact Nat.lt_succ_self _)⟩)
      · skip
        refine value_ (w1 := ?_) (v := ?_) (by rfl) rfl ?_ ?_
        rotate_left 2
        · go_simp
          constructor
          · rfl
          · rfl
        refine hK.out _ _ ⟨pw_cell_below (below1 _ _) (hHeld.1), pw_cell_below (below1 _ _) (hHeld.2.1), pw_cell_below (below1 _ _) (hHeld.2.2.1), pw_cell_below (below1 _ _) (hHeld.2.2.2.1), pw_cell_below (below1 _ _) (hHeld.2.2.2.2)⟩ (fun hHeld => ?_)
        clear hK K
        refine norm_ (a' := ?_) ?_ ?_
        rotate_left
        · show Act.put _ (some 15) _ = _
          simp only [Act.put, List.setIfInBounds_toArray, List.set_cons_zero, List.set_cons_succ, i64_w, i32_w]
          rfl
        refine one_ (i := 1) (N := some 92) #[true, true, true, false, false, false, false, true, false, false] rfl rfl (one_of HT_.out (by kernel_rfl)) (by decide) (fun K hK => ?_)
        refine goes_ Try.func10 (by kernel_rfl) rfl #[.agg #[.int .i64 ma, .slice A_u (lower l ma).length c_u]] (by rfl) rfl rfl (by simp only [List.map_toArray, List.map_cons, List.map_nil]; first | rfl | (refine congrArg List.toArray (congr (congrArg List.cons ?_) (congrArg (fun z => [z]) ?_)) <;> first | rfl | go_simp)) ?_
        with_reducible refine (copy_C (lower l ma) ma A_u c_u _ (Kd.C_below C_u.out (bt (bt (bt (bt (bt (bt (bt (bt (bt (bt N_w5.out N_w6.out) N_w7.out) N_w8.out) N_w9.out) N_wA.out) N_wB.out) N_wC.out) N_wD.out) N_wE.out) (below1 _ _).drew)) hl_u HRm).mono ?_
        rintro e wa ⟨Ac, cc, rfl, hcc, hCc, hba⟩
        refine ⟨_, rfl, ?_⟩
        refine hK.out _ _ ⟨pw_cell_below hba (hHeld.1), pw_cell_below hba (hHeld.2.1), pw_cell_below hba (hHeld.2.2.1), pw_cell_below hba (hHeld.2.2.2.1), pw_cell_below hba (hHeld.2.2.2.2)⟩ (fun hHeld => ?_)
        clear hK K
        refine norm_ (a' := ?_) ?_ ?_
        rotate_left
        · show Act.put _ (some 92) _ = _
          simp only [Act.put, List.setIfInBounds_toArray, List.set_cons_zero, List.set_cons_succ, i64_w, i32_w]
          rfl
        refine one_ (i := 3) (N := some 94) #[true, true, true, true, false, false, false, true, false, false] rfl rfl (one_of HT_.out (by kernel_rfl)) (by decide) (fun K hK => ?_)
        refine goes_ Try.func16 (by kernel_rfl) rfl #[.agg #[.int .i64 ma, .slice Ac (lower l ma).length cc], .agg #[.int .i64 ma, .int .i64 nx, .slice A_d (since l ma).length c_d]] (by rfl) rfl rfl (by simp only [List.map_toArray, List.map_cons, List.map_nil]; first | rfl | (refine congrArg List.toArray (congr (congrArg List.cons ?_) (congrArg (fun z => [z]) ?_)) <;> first | rfl | go_simp)) ?_
        with_reducible refine (apply_R (lower l ma) (since l ma) l ma nx Ac A_d cc c_d _ (Kd.C_below hCc (Below.refl _ _)) hcc HRm (Kd.C_below C_d.out (bt (bt (bt (bt (bt (bt (bt N_w8.out N_w9.out) N_wA.out) N_wB.out) N_wC.out) N_wD.out) N_wE.out) (bt (below1 _ _).drew hba))) hl_d HR_d (bytes_since rt ma).1 (bytes_since rt ma).2 (mrg_all rt ma)).mono ?_
        rintro e wb ⟨Ax, cx, rfl, hcx, hRx, hbb⟩
        refine ⟨_, rfl, ?_⟩
        refine hK.out _ _ ⟨pw_cell_below hbb (hHeld.1), pw_cell_below hbb (hHeld.2.1), pw_cell_below hbb (hHeld.2.2.1), pw_cell_below hbb (hHeld.2.2.2.1), pw_cell_below hbb (hHeld.2.2.2.2)⟩ (fun hHeld => ?_)
        clear hK K
        refine norm_ (a' := ?_) ?_ ?_
        rotate_left
        · show Act.put _ (some 94) _ = _
          simp only [Act.put, List.setIfInBounds_toArray, List.set_cons_zero, List.set_cons_succ, i64_w, i32_w]
          rfl
        refine pure_ (i := 4) (N := some 90) (v := ?_) (a' := ?_) #[true, true, true, true, true, false, false, true, false, false] rfl rfl (any_of HT_.out (by kernel_rfl)) (fun _ _ _ h => h) (Or.inl ⟨by rfl, ?_⟩) ?_ ?_
        rotate_left
        · intro w'
          go_simp
          with_reducible rfl
        rotate_left
        · simp only [Act.put, List.setIfInBounds_toArray, List.set_cons_zero, List.set_cons_succ, i64_w, i32_w]
          rfl
        refine pure_ (i := 5) (N := some 95) (v := ?_) (a' := ?_) #[true, true, true, true, true, true, false, true, false, false] rfl rfl (any_of HT_.out (by kernel_rfl)) (fun _ _ _ h => h) (Or.inl ⟨by rfl, ?_⟩) ?_ ?_
        rotate_left
        · intro w'
          go_simp
          with_reducible rfl
        rotate_left
        · simp only [Act.put, List.setIfInBounds_toArray, List.set_cons_zero, List.set_cons_succ, i64_w, i32_w]
          rfl
        refine pure_ (i := 6) (N := some 96) (v := ?_) (a' := ?_) #[true, true, true, true, true, true, true, true, false, false] rfl rfl (any_of HT_.out (by kernel_rfl)) (fun _ _ _ h => h) (Or.inl ⟨by rfl, ?_⟩) ?_ ?_
        rotate_left
        · intro w'
          go_simp
          with_reducible rfl
        rotate_left
        · simp only [Act.put, List.setIfInBounds_toArray, List.set_cons_zero, List.set_cons_succ, i64_w, i32_w]
          rfl
        exact norm_ (by simp only [putAll, Act.put, List.setIfInBounds_toArray, List.set_cons_zero, List.set_cons_succ]) (hCont (wE.heap.size, Ac, cc, Ax, cx) _ ⟨(bt (bt (below1 _ _).drew hba) hbb), (((zbox_new wE).below (Below.refl _ _).drew).below hba).below hbb, Nat.le_refl _, r_low hRx (show wE.heap.size ≤ wa.heap.size from Below.size (bt (below1 wE (.cells #[.int .i64 0, .slice none 0 0] 24)).drew hba)) (Zbox.lt (((zbox_new wE).below (Below.refl _ _).drew).below hba))⟩)
    rintro ⟨g15, Ac15, cc15, A_15, c_15⟩ wx15 ⟨hF1, hF2, hF3, hF4⟩
    have k0 := hF2.c0
    have k1 := hF2.c1
    have kf := hF2.fr
    refine norm_ (a' := ?_) ?_ ?_
    rotate_left
    · simp only [putAll, Act.put, List.setIfInBounds_toArray, List.set_cons_zero, List.set_cons_succ]
      rfl
    refine last_ (i := 8) (N := none) #[true, true, true, true, true, true, true, true, true, false] rfl rfl (one_of HT_.out (by kernel_rfl)) (by decide) (fun K hK => ?_)
    refine skip_ (w1 := ?_) (by rfl) rfl ?_ ?_
    rotate_left
    · go_simp
      rfl
    refine hK.out _ _ ?_
    clear hK K
    refine pure_ (i := 9) (N := some 10) (v := ?_) (a' := ?_) #[true, true, true, true, true, true, true, true, true, true] rfl rfl (any_of HT_.out (by kernel_rfl)) (fun _ _ _ h => h) (Or.inl ⟨by rfl, ?_⟩) ?_ ?_
    rotate_left
    · intro w'
      go_simp
      with_reducible rfl
    rotate_left
    · simp only [Act.put, List.setIfInBounds_toArray, List.set_cons_zero, List.set_cons_succ, i64_w, i32_w]
      rfl
    refine done_ (done_of HT_.out (by kernel_rfl)) ?_
    obtain ⟨hs1, hs2, hs3, hs4, hs5⟩ := stored nx hF1 hF2 hF3 hF4
    generalize ((wx15.setCell ⟨g15, 0, none⟩ (.int .i64 nx)).setCell ⟨g15, 1, none⟩ (.slice A_15 l.length c_15)) = wF at *
    clear hF1 hF2 hF3 hF4 k0 k1 kf
    have N_wF := Lib.hid hs1
    have C_x := Lib.hid hs5
    have hl_x := hs4
    have B_x_0 := Lib.hid hs2
    have B_x_1 := Lib.hid hs3
    clear hs1 hs2 hs3 hs4 hs5
    go_upto_region 16 with fail
    have hbs16 := bytes_since rtn ma
    have hmg16 := mrg_all rtn ma
    rw [lower_lower hmn] at hbs16 hmg16
    refine start_ (n := 10) (S := fun w' => w'.cell? ⟨w4.heap.size, 0, none⟩ = some (.int .i64 ma) ∧ w'.cell? ⟨w4.heap.size, 1, none⟩ = some (.slice A_u (lower l ma).length c_u) ∧ w'.cell? ⟨w9.heap.size, 0, none⟩ = some (.int .i64 ma) ∧ w'.cell? ⟨w9.heap.size, 1, none⟩ = some (.int .i64 nb) ∧ w'.cell? ⟨w9.heap.size, 2, none⟩ = some (.slice A_o (since (lower l nb) ma).length c_o)) (ds := [8]) #[false, false, false, false, false, false, false, false, false, false] (by kernel_rfl) rfl rfl ⟨pw_cell_below (bt (bt (bt (bt (bt (bt (bt (bt (bt (bt N_w6.out N_w7.out) N_w8.out) N_w9.out) N_wA.out) N_wB.out) N_wC.out) N_wD.out) N_wE.out) N_wF.out) (Below.refl _ _).drew) B_u_0.out, pw_cell_below (bt (bt (bt (bt (bt (bt (bt (bt (bt (bt N_w6.out N_w7.out) N_w8.out) N_w9.out) N_wA.out) N_wB.out) N_wC.out) N_wD.out) N_wE.out) N_wF.out) (Below.refl _ _).drew) B_u_1.out, pw_cell_below (bt (bt (bt (bt (bt N_wB.out N_wC.out) N_wD.out) N_wE.out) N_wF.out) (Below.refl _ _).drew) B_o_0.out, pw_cell_below (bt (bt (bt (bt (bt N_wB.out N_wC.out) N_wD.out) N_wE.out) N_wF.out) (Below.refl _ _).drew) B_o_1.out, pw_cell_below (bt (bt (bt (bt (bt N_wB.out N_wC.out) N_wD.out) N_wE.out) N_wF.out) (Below.refl _ _).drew) B_o_2.out⟩ (fun hHeld => ?_)
    refine with_tabW fW.tab16 fW.bits16 (fun HT_ HW_ => ?_)
    refine take_ (i := 0) (N := some 98) (v := ?_) (a' := ?_) #[true, false, false, false, false, false, false, false, false, false] rfl rfl (take_ofW HT_.out HW_.out (by kernel_rfl)) (fun _ _ _ h => h) (Or.inl ⟨by rfl, ?_⟩) hHeld ?_ ?_
    rotate_left
    · rintro w' ⟨s0, s1, s2, s3, s4⟩
      go_simp
      with_reducible rfl
    rotate_left
    · simp only [Act.put, List.setIfInBounds_toArray, List.set_cons_zero, List.set_cons_succ, i64_w, i32_w]
      rfl
    refine take_ (i := 2) (N := some 100) (v := ?_) (a' := ?_) #[true, false, true, false, false, false, false, false, false, false] rfl rfl (take_ofW HT_.out HW_.out (by kernel_rfl)) (fun _ _ _ h => h) (Or.inl ⟨by rfl, ?_⟩) hHeld ?_ ?_
    rotate_left
    · rintro w' ⟨s0, s1, s2, s3, s4⟩
      go_simp
      with_reducible rfl
    rotate_left
    · simp only [Act.put, List.setIfInBounds_toArray, List.set_cons_zero, List.set_cons_succ, i64_w, i32_w]
      rfl
    refine join_ (σ := Nat × Option Addr × Nat × Option Addr × Nat) 2 #[true, true, true, true, true, true, true, true, false, false] (fun s => [(99, .agg #[.int .i64 ma, .slice s.2.1 (lower l ma).length s.2.2.1]), (101, .tuple #[.agg #[.int .i64 nb, .slice s.2.2.2.1 (lower l nb).length s.2.2.2.2], .int .i64 0]), (97, .tuple #[.agg #[.int .i64 nb, .slice s.2.2.2.1 (lower l nb).length s.2.2.2.2], .int .i64 0]), (102, .agg #[.int .i64 nb, .slice s.2.2.2.1 (lower l nb).length s.2.2.2.2]), (103, .int .i64 0), (16, .pointer (some ⟨s.1, 0, none⟩))]) (fun s w' => (Below wF.heap.size wF w' ∧ Zbox w' s.1 ∧ wF.heap.size ≤ s.1 ∧ kVn.R 48 w' wF.heap.size (fun k => k ≠ s.1) (.slice s.2.2.2.1 (lower l nb).length s.2.2.2.2) (lower l nb))) ?_ ?_
    rotate_left
    · intro hCont
      refine two_ (i := 1) (j := 7) (Ni := some 99) (Nj := some 16) #[true, true, true, false, false, false, false, false, false, false] #[true, false, true, false, false, false, false, true, false, false] rfl rfl rfl rfl (two_of HT_.out (by kernel_rfl)) (by decide) (by decide) (fun K hK => ?_) (fun K hK => ?_)
      · skip
        refine goes_ Try.func10 (by kernel_rfl) rfl #[.agg #[.int .i64 ma, .slice A_u (lower l ma).length c_u]] (by rfl) rfl rfl (by simp only [List.map_toArray, List.map_cons, List.map_nil]; first | rfl | (refine congrArg List.toArray (congr (congrArg List.cons ?_) (congrArg (fun z => [z]) ?_)) <;> first | rfl | go_simp)) ?_
        with_reducible refine (copy_C (lower l ma) ma A_u c_u _ (Kd.C_below C_u.out (bt (bt (bt (bt (bt (bt (bt (bt (bt (bt (bt N_w5.out N_w6.out) N_w7.out) N_w8.out) N_w9.out) N_wA.out) N_wB.out) N_wC.out) N_wD.out) N_wE.out) N_wF.out) (Below.refl _ _).drew)) hl_u HRm).mono ?_
        rintro e wa ⟨Ac, cc, rfl, hcc, hCc, hba⟩
        refine ⟨_, rfl, ?_⟩
        refine hK.out _ _ ⟨pw_cell_below hba (hHeld.1), pw_cell_below hba (hHeld.2.1), pw_cell_below hba (hHeld.2.2.1), pw_cell_below hba (hHeld.2.2.2.1), pw_cell_below hba (hHeld.2.2.2.2)⟩ (fun hHeld => ?_)
        clear hK K
        refine norm_ (a' := ?_) ?_ ?_
        rotate_left
        · show Act.put _ (some 99) _ = _
          simp only [Act.put, List.setIfInBounds_toArray, List.set_cons_zero, List.set_cons_succ, i64_w, i32_w]
          rfl
        refine two_ (i := 3) (j := 7) (Ni := some 101) (Nj := some 16) #[true, true, true, true, false, false, false, false, false, false] #[true, true, true, false, false, false, false, true, false, false] rfl rfl rfl rfl (two_of HT_.out (by kernel_rfl)) (by decide) (by decide) (fun K hK => ?_) (fun K hK => ?_)
        · skip
          refine goes_ Try.func16 (by kernel_rfl) rfl #[.agg #[.int .i64 ma, .slice Ac (lower l ma).length cc], .agg #[.int .i64 ma, .int .i64 nb, .slice A_o (since (lower l nb) ma).length c_o]] (by rfl) rfl rfl (by simp only [List.map_toArray, List.map_cons, List.map_nil]; first | rfl | (refine congrArg List.toArray (congr (congrArg List.cons ?_) (congrArg (fun z => [z]) ?_)) <;> first | rfl | go_simp)) ?_
          with_reducible refine (apply_R (lower l ma) (since (lower l nb) ma) (lower l nb) ma nb Ac A_o cc c_o _ (Kd.C_below hCc (Below.refl _ _)) hcc HRm (Kd.C_below C_o.out (bt (bt (bt (bt (bt (bt N_wA.out N_wB.out) N_wC.out) N_wD.out) N_wE.out) N_wF.out) (bt (Below.refl _ _).drew hba))) hl_o HR_o hbs16.1 hbs16.2 hmg16).mono ?_
          rintro e wb ⟨Ax, cx, rfl, hcx, hRx, hbb⟩
          refine ⟨_, rfl, ?_⟩
          refine hK.out _ _ ⟨pw_cell_below hbb (hHeld.1), pw_cell_below hbb (hHeld.2.1), pw_cell_below hbb (hHeld.2.2.1), pw_cell_below hbb (hHeld.2.2.2.1), pw_cell_below hbb (hHeld.2.2.2.2)⟩ (fun hHeld => ?_)
          clear hK K
          refine norm_ (a' := ?_) ?_ ?_
          rotate_left
          · show Act.put _ (some 101) _ = _
            simp only [Act.put, List.setIfInBounds_toArray, List.set_cons_zero, List.set_cons_succ, i64_w, i32_w]
            rfl
          refine pure_ (i := 4) (N := some 97) (v := ?_) (a' := ?_) #[true, true, true, true, true, false, false, false, false, false] rfl rfl (any_of HT_.out (by kernel_rfl)) (fun _ _ _ h => h) (Or.inl ⟨by rfl, ?_⟩) ?_ ?_
          rotate_left
          · intro w'
            go_simp
            with_reducible rfl
          rotate_left
          · simp only [Act.put, List.setIfInBounds_toArray, List.set_cons_zero, List.set_cons_succ, i64_w, i32_w]
            rfl
          refine pure_ (i := 5) (N := some 102) (v := ?_) (a' := ?_) #[true, true, true, true, true, true, false, false, false, false] rfl rfl (any_of HT_.out (by kernel_rfl)) (fun _ _ _ h => h) (Or.inl ⟨by rfl, ?_⟩) ?_ ?_
          rotate_left
          · intro w'
            go_simp
            with_reducible rfl
          rotate_left
          · simp only [Act.put, List.setIfInBounds_toArray, List.set_cons_zero, List.set_cons_succ, i64_w, i32_w]
            rfl
          refine pure_ (i := 6) (N := some 103) (v := ?_) (a' := ?_) #[true, true, true, true, true, true, true, false, false, false] rfl rfl (any_of HT_.out (by kernel_rfl)) (fun _ _ _ h => h) (Or.inl ⟨by rfl, ?_⟩) ?_ ?_
          rotate_left
          · intro w'
            go_simp
            with_reducible rfl
          rotate_left
          · simp only [Act.put, List.setIfInBounds_toArray, List.set_cons_zero, List.set_cons_succ, i64_w, i32_w]
            rfl
          refine one_ (i := 7) (N := some 16) #[true, true, true, true, true, true, true, true, false, false] rfl rfl (one_of HT_.out (by kernel_rfl)) (by decide) (fun K hK => ?_)
          refine value_ (w1 := ?_) (v := ?_) (by rfl) rfl ?_ ?_
          rotate_left 2
          · go_simp
            constructor
            · rfl
            · rfl
          refine hK.out _ _ ⟨pw_cell_below (below1 _ _) (hHeld.1), pw_cell_below (below1 _ _) (hHeld.2.1), pw_cell_below (below1 _ _) (hHeld.2.2.1), pw_cell_below (below1 _ _) (hHeld.2.2.2.1), pw_cell_below (below1 _ _) (hHeld.2.2.2.2)⟩ (fun hHeld => ?_)
          clear hK K
          refine norm_ (a' := ?_) ?_ ?_
          rotate_left
          · show Act.put _ (some 16) _ = _
            simp only [Act.put, List.setIfInBounds_toArray, List.set_cons_zero, List.set_cons_succ, i64_w, i32_w]
            rfl
          exact norm_ (by simp only [putAll, Act.put, List.setIfInBounds_toArray, List.set_cons_zero, List.set_cons_succ]) (hCont (wb.heap.size, Ac, cc, Ax, cx) _ ⟨(bt (bt (bt (Below.refl _ _).drew hba) hbb) (below1 _ _)), zbox_new _, ((bt (bt (Below.refl wF.heap.size wF).drew hba) hbb)).size, r_new hRx (show wF.heap.size ≤ wa.heap.size from ((bt (Below.refl wF.heap.size wF).drew hba)).size) _⟩)
        · skip
          refine value_ (w1 := ?_) (v := ?_) (by rfl) rfl ?_ ?_
          rotate_left 2
          · go_simp
            constructor
            · rfl
            · rfl
          refine hK.out _ _ ⟨pw_cell_below (below1 _ _) (hHeld.1), pw_cell_below (below1 _ _) (hHeld.2.1), pw_cell_below (below1 _ _) (hHeld.2.2.1), pw_cell_below (below1 _ _) (hHeld.2.2.2.1), pw_cell_below (below1 _ _) (hHeld.2.2.2.2)⟩ (fun hHeld => ?_)
          clear hK K
          refine norm_ (a' := ?_) ?_ ?_
          rotate_left
          · show Act.put _ (some 16) _ = _
            simp only [Act.put, List.setIfInBounds_toArray, List.set_cons_zero, List.set_cons_succ, i64_w, i32_w]
            rfl
          refine one_ (i := 3) (N := some 101) #[true, true, true, true, false, false, false, true, false, false] rfl rfl (one_of HT_.out (by kernel_rfl)) (by decide) (fun K hK => ?_)
          refine goes_ Try.func16 (by kernel_rfl) rfl #[.agg #[.int .i64 ma, .slice Ac (lower l ma).length cc], .agg #[.int .i64 ma, .int .i64 nb, .slice A_o (since (lower l nb) ma).length c_o]] (by rfl) rfl rfl (by simp only [List.map_toArray, List.map_cons, List.map_nil]; first | rfl | (refine congrArg List.toArray (congr (congrArg List.cons ?_) (congrArg (fun z => [z]) ?_)) <;> first | rfl | go_simp)) ?_
          with_reducible refine (apply_R (lower l ma) (since (lower l nb) ma) (lower l nb) ma nb Ac A_o cc c_o _ (Kd.C_below hCc (below1 _ _)) hcc HRm (Kd.C_below C_o.out (bt (bt (bt (bt (bt (bt N_wA.out N_wB.out) N_wC.out) N_wD.out) N_wE.out) N_wF.out) (bt (bt (Below.refl _ _).drew hba) (below1 _ _)))) hl_o HR_o hbs16.1 hbs16.2 hmg16).mono ?_
          rintro e wb ⟨Ax, cx, rfl, hcx, hRx, hbb⟩
          refine ⟨_, rfl, ?_⟩
          refine hK.out _ _ ⟨pw_cell_below hbb (hHeld.1), pw_cell_below hbb (hHeld.2.1), pw_cell_below hbb (hHeld.2.2.1), pw_cell_below hbb (hHeld.2.2.2.1), pw_cell_below hbb (hHeld.2.2.2.2)⟩ (fun hHeld => ?_)
          clear hK K
          refine norm_ (a' := ?_) ?_ ?_
          rotate_left
          · show Act.put _ (some 101) _ = _
            simp only [Act.put, List.setIfInBounds_toArray, List.set_cons_zero, List.set_cons_succ, i64_w, i32_w]
            rfl
          refine pure_ (i := 4) (N := some 97) (v := ?_) (a' := ?_) #[true, true, true, true, true, false, false, true, false, false] rfl rfl (any_of HT_.out (by kernel_rfl)) (fun _ _ _ h => h) (Or.inl ⟨by rfl, ?_⟩) ?_ ?_
          rotate_left
          · intro w'
            go_simp
            with_reducible rfl
          rotate_left
          · simp only [Act.put, List.setIfInBounds_toArray, List.set_cons_zero, List.set_cons_succ, i64_w, i32_w]
            rfl
          refine pure_ (i := 5) (N := some 102) (v := ?_) (a' := ?_) #[true, true, true, true, true, true, false, true, false, false] rfl rfl (any_of HT_.out (by kernel_rfl)) (fun _ _ _ h => h) (Or.inl ⟨by rfl, ?_⟩) ?_ ?_
          rotate_left
          · intro w'
            go_simp
            with_reducible rfl
          rotate_left
          · simp only [Act.put, List.setIfInBounds_toArray, List.set_cons_zero, List.set_cons_succ, i64_w, i32_w]
            rfl
          refine pure_ (i := 6) (N := some 103) (v := ?_) (a' := ?_) #[true, true, true, true, true, true, true, true, false, false] rfl rfl (any_of HT_.out (by kernel_rfl)) (fun _ _ _ h => h) (Or.inl ⟨by rfl, ?_⟩) ?_ ?_
          rotate_left
          · intro w'
            go_simp
            with_reducible rfl
          rotate_left
          · simp only [Act.put, List.setIfInBounds_toArray, List.set_cons_zero, List.set_cons_succ, i64_w, i32_w]
            rfl
          exact norm_ (by simp only [putAll, Act.put, List.setIfInBounds_toArray, List.set_cons_zero, List.set_cons_succ]) (hCont (wa.heap.size, Ac, cc, Ax, cx) _ ⟨(bt (bt (bt (Below.refl _ _).drew hba) (below1 _ _)) hbb), (zbox_new _).below hbb, ((bt (Below.refl wF.heap.size wF).drew hba)).size, r_low hRx ((bt (bt (Below.refl wF.heap.size wF).drew hba) (below1 wa _))).size (by rw [alloc_size]; exact Nat.lt_succ_self _)⟩)
      · skip
        refine value_ (w1 := ?_) (v := ?_) (by rfl) rfl ?_ ?_
        rotate_left 2
        · go_simp
          constructor
          · rfl
          · rfl
        refine hK.out _ _ ⟨pw_cell_below (below1 _ _) (hHeld.1), pw_cell_below (below1 _ _) (hHeld.2.1), pw_cell_below (below1 _ _) (hHeld.2.2.1), pw_cell_below (below1 _ _) (hHeld.2.2.2.1), pw_cell_below (below1 _ _) (hHeld.2.2.2.2)⟩ (fun hHeld => ?_)
        clear hK K
        refine norm_ (a' := ?_) ?_ ?_
        rotate_left
        · show Act.put _ (some 16) _ = _
          simp only [Act.put, List.setIfInBounds_toArray, List.set_cons_zero, List.set_cons_succ, i64_w, i32_w]
          rfl
        refine one_ (i := 1) (N := some 99) #[true, true, true, false, false, false, false, true, false, false] rfl rfl (one_of HT_.out (by kernel_rfl)) (by decide) (fun K hK => ?_)
        refine goes_ Try.func10 (by kernel_rfl) rfl #[.agg #[.int .i64 ma, .slice A_u (lower l ma).length c_u]] (by rfl) rfl rfl (by simp only [List.map_toArray, List.map_cons, List.map_nil]; first | rfl | (refine congrArg List.toArray (congr (congrArg List.cons ?_) (congrArg (fun z => [z]) ?_)) <;> first | rfl | go_simp)) ?_
        with_reducible refine (copy_C (lower l ma) ma A_u c_u _ (Kd.C_below C_u.out (bt (bt (bt (bt (bt (bt (bt (bt (bt (bt (bt N_w5.out N_w6.out) N_w7.out) N_w8.out) N_w9.out) N_wA.out) N_wB.out) N_wC.out) N_wD.out) N_wE.out) N_wF.out) (below1 _ _).drew)) hl_u HRm).mono ?_
        rintro e wa ⟨Ac, cc, rfl, hcc, hCc, hba⟩
        refine ⟨_, rfl, ?_⟩
        refine hK.out _ _ ⟨pw_cell_below hba (hHeld.1), pw_cell_below hba (hHeld.2.1), pw_cell_below hba (hHeld.2.2.1), pw_cell_below hba (hHeld.2.2.2.1), pw_cell_below hba (hHeld.2.2.2.2)⟩ (fun hHeld => ?_)
        clear hK K
        refine norm_ (a' := ?_) ?_ ?_
        rotate_left
        · show Act.put _ (some 99) _ = _
          simp only [Act.put, List.setIfInBounds_toArray, List.set_cons_zero, List.set_cons_succ, i64_w, i32_w]
          rfl
        refine one_ (i := 3) (N := some 101) #[true, true, true, true, false, false, false, true, false, false] rfl rfl (one_of HT_.out (by kernel_rfl)) (by decide) (fun K hK => ?_)
        refine goes_ Try.func16 (by kernel_rfl) rfl #[.agg #[.int .i64 ma, .slice Ac (lower l ma).length cc], .agg #[.int .i64 ma, .int .i64 nb, .slice A_o (since (lower l nb) ma).length c_o]] (by rfl) rfl rfl (by simp only [List.map_toArray, List.map_cons, List.map_nil]; first | rfl | (refine congrArg List.toArray (congr (congrArg List.cons ?_) (congrArg (fun z => [z]) ?_)) <;> first | rfl | go_simp)) ?_
        with_reducible refine (apply_R (lower l ma) (since (lower l nb) ma) (lower l nb) ma nb Ac A_o cc c_o _ (Kd.C_below hCc (Below.refl _ _)) hcc HRm (Kd.C_below C_o.out (bt (bt (bt (bt (bt (bt N_wA.out N_wB.out) N_wC.out) N_wD.out) N_wE.out) N_wF.out) (bt (below1 _ _).drew hba))) hl_o HR_o hbs16.1 hbs16.2 hmg16).mono ?_
        rintro e wb ⟨Ax, cx, rfl, hcx, hRx, hbb⟩
        refine ⟨_, rfl, ?_⟩
        refine hK.out _ _ ⟨pw_cell_below hbb (hHeld.1), pw_cell_below hbb (hHeld.2.1), pw_cell_below hbb (hHeld.2.2.1), pw_cell_below hbb (hHeld.2.2.2.1), pw_cell_below hbb (hHeld.2.2.2.2)⟩ (fun hHeld => ?_)
        clear hK K
        refine norm_ (a' := ?_) ?_ ?_
        rotate_left
        · show Act.put _ (some 101) _ = _
          simp only [Act.put, List.setIfInBounds_toArray, List.set_cons_zero, List.set_cons_succ, i64_w, i32_w]
          rfl
        refine pure_ (i := 4) (N := some 97) (v := ?_) (a' := ?_) #[true, true, true, true, true, false, false, true, false, false] rfl rfl (any_of HT_.out (by kernel_rfl)) (fun _ _ _ h => h) (Or.inl ⟨by rfl, ?_⟩) ?_ ?_
        rotate_left
        · intro w'
          go_simp
          with_reducible rfl
        rotate_left
        · simp only [Act.put, List.setIfInBounds_toArray, List.set_cons_zero, List.set_cons_succ, i64_w, i32_w]
          rfl
        refine pure_ (i := 5) (N := some 102) (v := ?_) (a' := ?_) #[true, true, true, true, true, true, false, true, false, false] rfl rfl (any_of HT_.out (by kernel_rfl)) (fun _ _ _ h => h) (Or.inl ⟨by rfl, ?_⟩) ?_ ?_
        rotate_left
        · intro w'
          go_simp
          with_reducible rfl
        rotate_left
        · simp only [Act.put, List.setIfInBounds_toArray, List.set_cons_zero, List.set_cons_succ, i64_w, i32_w]
          rfl
        refine pure_ (i := 6) (N := some 103) (v := ?_) (a' := ?_) #[true, true, true, true, true, true, true, true, false, false] rfl rfl (any_of HT_.out (by kernel_rfl)) (fun _ _ _ h => h) (Or.inl ⟨by rfl, ?_⟩) ?_ ?_
        rotate_left
        · intro w'
          go_simp
          with_reducible rfl
        rotate_left
        · simp only [Act.put, List.setIfInBounds_toArray, List.set_cons_zero, List.set_cons_succ, i64_w, i32_w]
          rfl
        exact norm_ (by simp only [putAll, Act.put, List.setIfInBounds_toArray, List.set_cons_zero, List.set_cons_succ]) (hCont (wF.heap.size, Ac, cc, Ax, cx) _ ⟨(bt (bt (below1 _ _).drew hba) hbb), (((zbox_new wF).below (Below.refl _ _).drew).below hba).below hbb, Nat.le_refl _, r_low hRx (show wF.heap.size ≤ wa.heap.size from Below.size (bt (below1 wF (.cells #[.int .i64 0, .slice none 0 0] 24)).drew hba)) (Zbox.lt (((zbox_new wF).below (Below.refl _ _).drew).below hba))⟩)
    rintro ⟨g16, Ac16, cc16, A_16, c_16⟩ wx16 ⟨hF1, hF2, hF3, hF4⟩
    have k0 := hF2.c0
    have k1 := hF2.c1
    have kf := hF2.fr
    refine norm_ (a' := ?_) ?_ ?_
    rotate_left
    · simp only [putAll, Act.put, List.setIfInBounds_toArray, List.set_cons_zero, List.set_cons_succ]
      rfl
    refine last_ (i := 8) (N := none) #[true, true, true, true, true, true, true, true, true, false] rfl rfl (one_of HT_.out (by kernel_rfl)) (by decide) (fun K hK => ?_)
    refine skip_ (w1 := ?_) (by rfl) rfl ?_ ?_
    rotate_left
    · go_simp
      rfl
    refine hK.out _ _ ?_
    clear hK K
    refine pure_ (i := 9) (N := some 12) (v := ?_) (a' := ?_) #[true, true, true, true, true, true, true, true, true, true] rfl rfl (any_of HT_.out (by kernel_rfl)) (fun _ _ _ h => h) (Or.inl ⟨by rfl, ?_⟩) ?_ ?_
    rotate_left
    · intro w'
      go_simp
      with_reducible rfl
    rotate_left
    · simp only [Act.put, List.setIfInBounds_toArray, List.set_cons_zero, List.set_cons_succ, i64_w, i32_w]
      rfl
    refine done_ (done_of HT_.out (by kernel_rfl)) ?_
    obtain ⟨hs1, hs2, hs3, hs4, hs5⟩ := stored nb hF1 hF2 hF3 hF4
    generalize ((wx16.setCell ⟨g16, 0, none⟩ (.int .i64 nb)).setCell ⟨g16, 1, none⟩ (.slice A_16 (lower l nb).length c_16)) = wG at *
    clear hF1 hF2 hF3 hF4 k0 k1 kf
    have N_wG := Lib.hid hs1
    have C_y := Lib.hid hs5
    have hl_y := hs4
    have B_y_0 := Lib.hid hs2
    have B_y_1 := Lib.hid hs3
    clear hs1 hs2 hs3 hs4 hs5
    have V_x_0 : World.cell? wG ⟨g15, 0, none⟩ = some (.int .i64 nx) := pw_cell_below N_wG.out B_x_0.out
    have V_x_1 : World.cell? wG ⟨g15, 1, none⟩ = some (.slice A_15 l.length c_15) := pw_cell_below N_wG.out B_x_1.out
    have V_v_0 : World.cell? wG ⟨w.heap.size, 0, none⟩ = some (.int .i64 nx) := pw_cell_below (bt (bt (bt (bt (bt (bt (bt (bt (bt (bt (bt (bt (bt (bt N_w2.out N_w3.out) N_w4.out) N_w5.out) N_w6.out) N_w7.out) N_w8.out) N_w9.out) N_wA.out) N_wB.out) N_wC.out) N_wD.out) N_wE.out) N_wF.out) N_wG.out) B_v_0.out
    have V_v_1 : World.cell? wG ⟨w.heap.size, 1, none⟩ = some (.slice A l.length c) := pw_cell_below (bt (bt (bt (bt (bt (bt (bt (bt (bt (bt (bt (bt (bt (bt N_w2.out N_w3.out) N_w4.out) N_w5.out) N_w6.out) N_w7.out) N_w8.out) N_w9.out) N_wA.out) N_wB.out) N_wC.out) N_wD.out) N_wE.out) N_wF.out) N_wG.out) B_v_1.out
    have hbs19 := bytes_since rt nb
    have hmg19 := mrg_all rt nb
    go_upto_region 22 with (first
      | (go_at_call 18; (with_reducible refine (same_C l nx A_15 A c_15 c _ (Kd.C_below C_x.out N_wG.out) hl_x (Kd.C_below C_l.out (bt (bt (bt (bt (bt (bt (bt (bt (bt (bt (bt (bt (bt (bt (bt N_w1.out N_w2.out) N_w3.out) N_w4.out) N_w5.out) N_w6.out) N_w7.out) N_w8.out) N_w9.out) N_wA.out) N_wB.out) N_wC.out) N_wD.out) N_wE.out) N_wF.out) N_wG.out)) hl).mono ?_; rintro e wH ⟨rfl, hb⟩; clear V_x_0 V_x_1 V_v_0 V_v_1; have N_wH := Lib.hid (bt (x := wG) (Below.refl _ _) hb); have V_y_0 : World.cell? wH ⟨g16, 0, none⟩ = some (.int .i64 nb) := pw_cell_below N_wH.out B_y_0.out; have V_y_1 : World.cell? wH ⟨g16, 1, none⟩ = some (.slice A_16 (lower l nb).length c_16) := pw_cell_below N_wH.out B_y_1.out; have V_k_0 : World.cell? wH ⟨w5.heap.size, 0, none⟩ = some (.int .i64 nb) := pw_cell_below (bt (bt (bt (bt (bt (bt (bt (bt (bt (bt N_w7.out N_w8.out) N_w9.out) N_wA.out) N_wB.out) N_wC.out) N_wD.out) N_wE.out) N_wF.out) N_wG.out) N_wH.out) B_k_0.out; have V_k_1 : World.cell? wH ⟨w5.heap.size, 1, none⟩ = some (.slice A_k (lower l nb).length c_k) := pw_cell_below (bt (bt (bt (bt (bt (bt (bt (bt (bt (bt N_w7.out N_w8.out) N_w9.out) N_wA.out) N_wB.out) N_wC.out) N_wD.out) N_wE.out) N_wF.out) N_wG.out) N_wH.out) B_k_1.out; clear hb))
      | (go_at_call 18; (with_reducible refine (same_C (lower l nb) nb A_16 A_k c_16 c_k _ (Kd.C_below C_y.out N_wH.out) hl_y (Kd.C_below C_k.out (bt (bt (bt (bt (bt (bt (bt (bt (bt (bt (bt N_w6.out N_w7.out) N_w8.out) N_w9.out) N_wA.out) N_wB.out) N_wC.out) N_wD.out) N_wE.out) N_wF.out) N_wG.out) N_wH.out)) hl_k).mono ?_; rintro e wI ⟨rfl, hb⟩; clear V_y_0 V_y_1 V_k_0 V_k_1; have N_wI := Lib.hid (bt (x := wH) (Below.refl _ _) hb); have V_y_0 : World.cell? wI ⟨g16, 0, none⟩ = some (.int .i64 nb) := pw_cell_below (bt N_wH.out N_wI.out) B_y_0.out; have V_y_1 : World.cell? wI ⟨g16, 1, none⟩ = some (.slice A_16 (lower l nb).length c_16) := pw_cell_below (bt N_wH.out N_wI.out) B_y_1.out; have V_t_0 : World.cell? wI ⟨wB.heap.size, 0, none⟩ = some (.int .i64 nb) := pw_cell_below (bt (bt (bt (bt (bt N_wD.out N_wE.out) N_wF.out) N_wG.out) N_wH.out) N_wI.out) B_t_0.out; have V_t_1 : World.cell? wI ⟨wB.heap.size, 1, none⟩ = some (.int .i64 nx) := pw_cell_below (bt (bt (bt (bt (bt N_wD.out N_wE.out) N_wF.out) N_wG.out) N_wH.out) N_wI.out) B_t_1.out; have V_t_2 : World.cell? wI ⟨wB.heap.size, 2, none⟩ = some (.slice A_t (since l nb).length c_t) := pw_cell_below (bt (bt (bt (bt (bt N_wD.out N_wE.out) N_wF.out) N_wG.out) N_wH.out) N_wI.out) B_t_2.out; clear hb))
      | (go_at_call 16; (with_reducible refine (apply_C (lower l nb) (since l nb) l nb nx A_16 A_t c_16 c_t _ (Kd.C_below C_y.out (bt N_wH.out N_wI.out)) hl_y HRn (Kd.C_below C_t.out (bt (bt (bt (bt (bt (bt N_wC.out N_wD.out) N_wE.out) N_wF.out) N_wG.out) N_wH.out) N_wI.out)) hl_t HR_t hbs19.1 hbs19.2 hmg19).mono ?_; rintro e wJ ⟨A_z, c_z, rfl, hl_, hC_, hb⟩; clear V_y_0 V_y_1 V_t_0 V_t_1 V_t_2; have N_wJ := Lib.hid (bt (x := wI) (Below.refl _ _) hb); have C_z := Lib.hid hC_; have hl_z := hl_; clear hC_ hl_; have V_v_0 : World.cell? (World.alloc wJ (.cells #[.int .i64 nx, .slice A_z l.length c_z] 24)) ⟨w.heap.size, 0, none⟩ = some (.int .i64 nx) := pw_cell_below (below1 wJ _) (pw_cell_below (bt (bt (bt (bt (bt (bt (bt (bt (bt (bt (bt (bt (bt (bt (bt (bt (bt N_w2.out N_w3.out) N_w4.out) N_w5.out) N_w6.out) N_w7.out) N_w8.out) N_w9.out) N_wA.out) N_wB.out) N_wC.out) N_wD.out) N_wE.out) N_wF.out) N_wG.out) N_wH.out) N_wI.out) N_wJ.out) B_v_0.out); have V_v_1 : World.cell? (World.alloc wJ (.cells #[.int .i64 nx, .slice A_z l.length c_z] 24)) ⟨w.heap.size, 1, none⟩ = some (.slice A l.length c) := pw_cell_below (below1 wJ _) (pw_cell_below (bt (bt (bt (bt (bt (bt (bt (bt (bt (bt (bt (bt (bt (bt (bt (bt (bt N_w2.out N_w3.out) N_w4.out) N_w5.out) N_w6.out) N_w7.out) N_w8.out) N_w9.out) N_wA.out) N_wB.out) N_wC.out) N_wD.out) N_wE.out) N_wF.out) N_wG.out) N_wH.out) N_wI.out) N_wJ.out) B_v_1.out); clear hb))
      | (go_at_call 18; (with_reducible refine (same_C l nx A_z A c_z c _ (Kd.C_below C_z.out (bt (Below.refl _ _) (below1 _ _))) hl_z (Kd.C_below C_l.out (bt (bt (bt (bt (bt (bt (bt (bt (bt (bt (bt (bt (bt (bt (bt (bt (bt (bt (bt N_w1.out N_w2.out) N_w3.out) N_w4.out) N_w5.out) N_w6.out) N_w7.out) N_w8.out) N_w9.out) N_wA.out) N_wB.out) N_wC.out) N_wD.out) N_wE.out) N_wF.out) N_wG.out) N_wH.out) N_wI.out) N_wJ.out) (below1 _ _))) hl).mono ?_; rintro e wK ⟨rfl, hb⟩; clear V_v_0 V_v_1; have N_wK := Lib.hid (bt (x := wJ) (below1 _ _) hb); have B_z_0 : Hid (World.cell? wK ⟨wJ.heap.size, 0, none⟩ = some (.int .i64 nx)) := Lib.hid (box_cell hb (i := 0) rfl); have B_z_1 : Hid (World.cell? wK ⟨wJ.heap.size, 1, none⟩ = some (.slice A_z l.length c_z)) := Lib.hid (box_cell hb (i := 1) rfl); clear hb))
      )
    by_cases qe : ma = nx
    · subst qe
      have t9 : (ma == ma) = true := by simp
      have hsn := since_nil (fun x hx => (rt.all x hx).2.2)
      have hmg22 : mrg (since l (-9223372036854775808)) (since (since l ma) (-9223372036854775808)) = l := by rw [since_all (fun x hx => (rt.all x hx).2.1), hsn]; exact mrg_end (.inr rfl) |>.trans (List.append_nil l)
      have hl22 : l.length + (since l ma).length ≤ 256 := by rw [hsn]; have := rt.len; simpa using this
      have hb22 : wrap64 (wrap64 (bsize l) + wrap64 (bsize (since l ma))) ≤ 65536 := bytes_nil rt.bytes hsn
      refine start_ (n := 10) (S := fun w' => w'.cell? ⟨w.heap.size, 0, none⟩ = some (.int .i64 ma) ∧ w'.cell? ⟨w.heap.size, 1, none⟩ = some (.slice A l.length c) ∧ w'.cell? ⟨w7.heap.size, 0, none⟩ = some (.int .i64 ma) ∧ w'.cell? ⟨w7.heap.size, 1, none⟩ = some (.int .i64 ma) ∧ w'.cell? ⟨w7.heap.size, 2, none⟩ = some (.slice A_d (since l ma).length c_d)) (ds := [8]) #[false, false, false, false, false, false, false, false, false, false] (by kernel_rfl) rfl rfl ⟨pw_cell_below (bt (bt (bt (bt (bt (bt (bt (bt (bt (bt (bt (bt (bt (bt (bt (bt (bt (bt (bt N_w2.out N_w3.out) N_w4.out) N_w5.out) N_w6.out) N_w7.out) N_w8.out) N_w9.out) N_wA.out) N_wB.out) N_wC.out) N_wD.out) N_wE.out) N_wF.out) N_wG.out) N_wH.out) N_wI.out) N_wJ.out) N_wK.out) (Below.refl _ _).drew) B_v_0.out, pw_cell_below (bt (bt (bt (bt (bt (bt (bt (bt (bt (bt (bt (bt (bt (bt (bt (bt (bt (bt (bt N_w2.out N_w3.out) N_w4.out) N_w5.out) N_w6.out) N_w7.out) N_w8.out) N_w9.out) N_wA.out) N_wB.out) N_wC.out) N_wD.out) N_wE.out) N_wF.out) N_wG.out) N_wH.out) N_wI.out) N_wJ.out) N_wK.out) (Below.refl _ _).drew) B_v_1.out, pw_cell_below (bt (bt (bt (bt (bt (bt (bt (bt (bt (bt (bt (bt N_w9.out N_wA.out) N_wB.out) N_wC.out) N_wD.out) N_wE.out) N_wF.out) N_wG.out) N_wH.out) N_wI.out) N_wJ.out) N_wK.out) (Below.refl _ _).drew) B_d_0.out, pw_cell_below (bt (bt (bt (bt (bt (bt (bt (bt (bt (bt (bt (bt N_w9.out N_wA.out) N_wB.out) N_wC.out) N_wD.out) N_wE.out) N_wF.out) N_wG.out) N_wH.out) N_wI.out) N_wJ.out) N_wK.out) (Below.refl _ _).drew) B_d_1.out, pw_cell_below (bt (bt (bt (bt (bt (bt (bt (bt (bt (bt (bt (bt N_w9.out N_wA.out) N_wB.out) N_wC.out) N_wD.out) N_wE.out) N_wF.out) N_wG.out) N_wH.out) N_wI.out) N_wJ.out) N_wK.out) (Below.refl _ _).drew) B_d_2.out⟩ (fun hHeld => ?_)
      refine with_tabW fW.tab22 fW.bits22 (fun HT_ HW_ => ?_)
      refine take_ (i := 0) (N := some 137) (v := ?_) (a' := ?_) #[true, false, false, false, false, false, false, false, false, false] rfl rfl (take_ofW HT_.out HW_.out (by kernel_rfl)) (fun _ _ _ h => h) (Or.inl ⟨by rfl, ?_⟩) hHeld ?_ ?_
      rotate_left
      · rintro w' ⟨s0, s1, s2, s3, s4⟩
        go_simp
        with_reducible rfl
      rotate_left
      · simp only [Act.put, List.setIfInBounds_toArray, List.set_cons_zero, List.set_cons_succ, i64_w, i32_w]
        rfl
      refine take_ (i := 2) (N := some 139) (v := ?_) (a' := ?_) #[true, false, true, false, false, false, false, false, false, false] rfl rfl (take_ofW HT_.out HW_.out (by kernel_rfl)) (fun _ _ _ h => h) (Or.inl ⟨by rfl, ?_⟩) hHeld ?_ ?_
      rotate_left
      · rintro w' ⟨s0, s1, s2, s3, s4⟩
        go_simp
        with_reducible rfl
      rotate_left
      · simp only [Act.put, List.setIfInBounds_toArray, List.set_cons_zero, List.set_cons_succ, i64_w, i32_w]
        rfl
      refine join_ (σ := Nat × Option Addr × Nat × Option Addr × Nat) 2 #[true, true, true, true, true, true, true, true, false, false] (fun s => [(138, .agg #[.int .i64 ma, .slice s.2.1 l.length s.2.2.1]), (140, .tuple #[.agg #[.int .i64 ma, .slice s.2.2.2.1 l.length s.2.2.2.2], .int .i64 0]), (136, .tuple #[.agg #[.int .i64 ma, .slice s.2.2.2.1 l.length s.2.2.2.2], .int .i64 0]), (141, .agg #[.int .i64 ma, .slice s.2.2.2.1 l.length s.2.2.2.2]), (142, .int .i64 0), (18, .pointer (some ⟨s.1, 0, none⟩))]) (fun s w' => (Below wK.heap.size wK w' ∧ Zbox w' s.1 ∧ wK.heap.size ≤ s.1 ∧ kVn.R 48 w' wK.heap.size (fun k => k ≠ s.1) (.slice s.2.2.2.1 l.length s.2.2.2.2) l)) ?_ ?_
      rotate_left
      · intro hCont
        refine two_ (i := 1) (j := 7) (Ni := some 138) (Nj := some 18) #[true, true, true, false, false, false, false, false, false, false] #[true, false, true, false, false, false, false, true, false, false] rfl rfl rfl rfl (two_of HT_.out (by kernel_rfl)) (by decide) (by decide) (fun K hK => ?_) (fun K hK => ?_)
        · skip
          refine goes_ Try.func10 (by kernel_rfl) rfl #[.agg #[.int .i64 ma, .slice A l.length c]] (by rfl) rfl rfl (by simp only [List.map_toArray, List.map_cons, List.map_nil]; first | rfl | (refine congrArg List.toArray (congr (congrArg List.cons ?_) (congrArg (fun z => [z]) ?_)) <;> first | rfl | go_simp)) ?_
          with_reducible refine (copy_C l ma A c _ (Kd.C_below C_l.out (bt (bt (bt (bt (bt (bt (bt (bt (bt (bt (bt (bt (bt (bt (bt (bt (bt (bt (bt (bt N_w1.out N_w2.out) N_w3.out) N_w4.out) N_w5.out) N_w6.out) N_w7.out) N_w8.out) N_w9.out) N_wA.out) N_wB.out) N_wC.out) N_wD.out) N_wE.out) N_wF.out) N_wG.out) N_wH.out) N_wI.out) N_wJ.out) N_wK.out) (Below.refl _ _).drew)) hl HR).mono ?_
          rintro e wa ⟨Ac, cc, rfl, hcc, hCc, hba⟩
          refine ⟨_, rfl, ?_⟩
          refine hK.out _ _ ⟨pw_cell_below hba (hHeld.1), pw_cell_below hba (hHeld.2.1), pw_cell_below hba (hHeld.2.2.1), pw_cell_below hba (hHeld.2.2.2.1), pw_cell_below hba (hHeld.2.2.2.2)⟩ (fun hHeld => ?_)
          clear hK K
          refine norm_ (a' := ?_) ?_ ?_
          rotate_left
          · show Act.put _ (some 138) _ = _
            simp only [Act.put, List.setIfInBounds_toArray, List.set_cons_zero, List.set_cons_succ, i64_w, i32_w]
            rfl
          refine two_ (i := 3) (j := 7) (Ni := some 140) (Nj := some 18) #[true, true, true, true, false, false, false, false, false, false] #[true, true, true, false, false, false, false, true, false, false] rfl rfl rfl rfl (two_of HT_.out (by kernel_rfl)) (by decide) (by decide) (fun K hK => ?_) (fun K hK => ?_)
          · skip
            refine goes_ Try.func16 (by kernel_rfl) rfl #[.agg #[.int .i64 ma, .slice Ac l.length cc], .agg #[.int .i64 ma, .int .i64 ma, .slice A_d (since l ma).length c_d]] (by rfl) rfl rfl (by simp only [List.map_toArray, List.map_cons, List.map_nil]; first | rfl | (refine congrArg List.toArray (congr (congrArg List.cons ?_) (congrArg (fun z => [z]) ?_)) <;> first | rfl | go_simp)) ?_
            with_reducible refine (apply_R l (since l ma) l ma ma Ac A_d cc c_d _ (Kd.C_below hCc (Below.refl _ _)) hcc HR (Kd.C_below C_d.out (bt (bt (bt (bt (bt (bt (bt (bt (bt (bt (bt (bt (bt N_w8.out N_w9.out) N_wA.out) N_wB.out) N_wC.out) N_wD.out) N_wE.out) N_wF.out) N_wG.out) N_wH.out) N_wI.out) N_wJ.out) N_wK.out) (bt (Below.refl _ _).drew hba))) hl_d HR_d hl22 hb22 hmg22).mono ?_
            rintro e wb ⟨Ax, cx, rfl, hcx, hRx, hbb⟩
            refine ⟨_, rfl, ?_⟩
            refine hK.out _ _ ⟨pw_cell_below hbb (hHeld.1), pw_cell_below hbb (hHeld.2.1), pw_cell_below hbb (hHeld.2.2.1), pw_cell_below hbb (hHeld.2.2.2.1), pw_cell_below hbb (hHeld.2.2.2.2)⟩ (fun hHeld => ?_)
            clear hK K
            refine norm_ (a' := ?_) ?_ ?_
            rotate_left
            · show Act.put _ (some 140) _ = _
              simp only [Act.put, List.setIfInBounds_toArray, List.set_cons_zero, List.set_cons_succ, i64_w, i32_w]
              rfl
            refine pure_ (i := 4) (N := some 136) (v := ?_) (a' := ?_) #[true, true, true, true, true, false, false, false, false, false] rfl rfl (any_of HT_.out (by kernel_rfl)) (fun _ _ _ h => h) (Or.inl ⟨by rfl, ?_⟩) ?_ ?_
            rotate_left
            · intro w'
              go_simp
              with_reducible rfl
            rotate_left
            · simp only [Act.put, List.setIfInBounds_toArray, List.set_cons_zero, List.set_cons_succ, i64_w, i32_w]
              rfl
            refine pure_ (i := 5) (N := some 141) (v := ?_) (a' := ?_) #[true, true, true, true, true, true, false, false, false, false] rfl rfl (any_of HT_.out (by kernel_rfl)) (fun _ _ _ h => h) (Or.inl ⟨by rfl, ?_⟩) ?_ ?_
            rotate_left
            · intro w'
              go_simp
              with_reducible rfl
            rotate_left
            · simp only [Act.put, List.setIfInBounds_toArray, List.set_cons_zero, List.set_cons_succ, i64_w, i32_w]
              rfl
            refine pure_ (i := 6) (N := some 142) (v := ?_) (a' := ?_) #[true, true, true, true, true, true, true, false, false, false] rfl rfl (any_of HT_.out (by kernel_rfl)) (fun _ _ _ h => h) (Or.inl ⟨by rfl, ?_⟩) ?_ ?_
            rotate_left
            · intro w'
              go_simp
              with_reducible rfl
            rotate_left
            · simp only [Act.put, List.setIfInBounds_toArray, List.set_cons_zero, List.set_cons_succ, i64_w, i32_w]
              rfl
            refine one_ (i := 7) (N := some 18) #[true, true, true, true, true, true, true, true, false, false] rfl rfl (one_of HT_.out (by kernel_rfl)) (by decide) (fun K hK => ?_)
            refine value_ (w1 := ?_) (v := ?_) (by rfl) rfl ?_ ?_
            rotate_left 2
            · go_simp
              constructor
              · rfl
              · rfl
            refine hK.out _ _ ⟨pw_cell_below (below1 _ _) (hHeld.1), pw_cell_below (below1 _ _) (hHeld.2.1), pw_cell_below (below1 _ _) (hHeld.2.2.1), pw_cell_below (below1 _ _) (hHeld.2.2.2.1), pw_cell_below (below1 _ _) (hHeld.2.2.2.2)⟩ (fun hHeld => ?_)
            clear hK K
            refine norm_ (a' := ?_) ?_ ?_
            rotate_left
            · show Act.put _ (some 18) _ = _
              simp only [Act.put, List.setIfInBounds_toArray, List.set_cons_zero, List.set_cons_succ, i64_w, i32_w]
              rfl
            exact norm_ (by simp only [putAll, Act.put, List.setIfInBounds_toArray, List.set_cons_zero, List.set_cons_succ]) (hCont (wb.heap.size, Ac, cc, Ax, cx) _ ⟨(bt (bt (bt (Below.refl _ _).drew hba) hbb) (below1 _ _)), zbox_new _, ((bt (bt (Below.refl wK.heap.size wK).drew hba) hbb)).size, r_new hRx (show wK.heap.size ≤ wa.heap.size from ((bt (Below.refl wK.heap.size wK).drew hba)).size) _⟩)
          · skip
            refine value_ (w1 := ?_) (v := ?_) (by rfl) rfl ?_ ?_
            rotate_left 2
            · go_simp
              constructor
              · rfl
              · rfl
            refine hK.out _ _ ⟨pw_cell_below (below1 _ _) (hHeld.1), pw_cell_below (below1 _ _) (hHeld.2.1), pw_cell_below (below1 _ _) (hHeld.2.2.1), pw_cell_below (below1 _ _) (hHeld.2.2.2.1), pw_cell_below (below1 _ _) (hHeld.2.2.2.2)⟩ (fun hHeld => ?_)
            clear hK K
            refine norm_ (a' := ?_) ?_ ?_
            rotate_left
            · show Act.put _ (some 18) _ = _
              simp only [Act.put, List.setIfInBounds_toArray, List.set_cons_zero, List.set_cons_succ, i64_w, i32_w]
              rfl
            refine one_ (i := 3) (N := some 140) #[true, true, true, true, false, false, false, true, false, false] rfl rfl (one_of HT_.out (by kernel_rfl)) (by decide) (fun K hK => ?_)
            refine goes_ Try.func16 (by kernel_rfl) rfl #[.agg #[.int .i64 ma, .slice Ac l.length cc], .agg #[.int .i64 ma, .int .i64 ma, .slice A_d (since l ma).length c_d]] (by rfl) rfl rfl (by simp only [List.map_toArray, List.map_cons, List.map_nil]; first | rfl | (refine congrArg List.toArray (congr (congrArg List.cons ?_) (congrArg (fun z => [z]) ?_)) <;> first | rfl | go_simp)) ?_
            with_reducible refine (apply_R l (since l ma) l ma ma Ac A_d cc c_d _ (Kd.C_below hCc (below1 _ _)) hcc HR (Kd.C_below C_d.out (bt (bt (bt (bt (bt (bt (bt (bt (bt (bt (bt (bt (bt N_w8.out N_w9.out) N_wA.out) N_wB.out) N_wC.out) N_wD.out) N_wE.out) N_wF.out) N_wG.out) N_wH.out) N_wI.out) N_wJ.out) N_wK.out) (bt (bt (Below.refl _ _).drew hba) (below1 _ _)))) hl_d HR_d hl22 hb22 hmg22).mono ?_
            rintro e wb ⟨Ax, cx, rfl, hcx, hRx, hbb⟩
            refine ⟨_, rfl, ?_⟩
            refine hK.out _ _ ⟨pw_cell_below hbb (hHeld.1), pw_cell_below hbb (hHeld.2.1), pw_cell_below hbb (hHeld.2.2.1), pw_cell_below hbb (hHeld.2.2.2.1), pw_cell_below hbb (hHeld.2.2.2.2)⟩ (fun hHeld => ?_)
            clear hK K
            refine norm_ (a' := ?_) ?_ ?_
            rotate_left
            · show Act.put _ (some 140) _ = _
              simp only [Act.put, List.setIfInBounds_toArray, List.set_cons_zero, List.set_cons_succ, i64_w, i32_w]
              rfl
            refine pure_ (i := 4) (N := some 136) (v := ?_) (a' := ?_) #[true, true, true, true, true, false, false, true, false, false] rfl rfl (any_of HT_.out (by kernel_rfl)) (fun _ _ _ h => h) (Or.inl ⟨by rfl, ?_⟩) ?_ ?_
            rotate_left
            · intro w'
              go_simp
              with_reducible rfl
            rotate_left
            · simp only [Act.put, List.setIfInBounds_toArray, List.set_cons_zero, List.set_cons_succ, i64_w, i32_w]
              rfl
            refine pure_ (i := 5) (N := some 141) (v := ?_) (a' := ?_) #[true, true, true, true, true, true, false, true, false, false] rfl rfl (any_of HT_.out (by kernel_rfl)) (fun _ _ _ h => h) (Or.inl ⟨by rfl, ?_⟩) ?_ ?_
            rotate_left
            · intro w'
              go_simp
              with_reducible rfl
            rotate_left
            · simp only [Act.put, List.setIfInBounds_toArray, List.set_cons_zero, List.set_cons_succ, i64_w, i32_w]
              rfl
            refine pure_ (i := 6) (N := some 142) (v := ?_) (a' := ?_) #[true, true, true, true, true, true, true, true, false, false] rfl rfl (any_of HT_.out (by kernel_rfl)) (fun _ _ _ h => h) (Or.inl ⟨by rfl, ?_⟩) ?_ ?_
            rotate_left
            · intro w'
              go_simp
              with_reducible rfl
            rotate_left
            · simp only [Act.put, List.setIfInBounds_toArray, List.set_cons_zero, List.set_cons_succ, i64_w, i32_w]
              rfl
            exact norm_ (by simp only [putAll, Act.put, List.setIfInBounds_toArray, List.set_cons_zero, List.set_cons_succ]) (hCont (wa.heap.size, Ac, cc, Ax, cx) _ ⟨(bt (bt (bt (Below.refl _ _).drew hba) (below1 _ _)) hbb), (zbox_new _).below hbb, ((bt (Below.refl wK.heap.size wK).drew hba)).size, r_low hRx ((bt (bt (Below.refl wK.heap.size wK).drew hba) (below1 wa _))).size (by rw [alloc_size]; exact Nat.lt_succ_self _)⟩)
        · skip
          refine value_ (w1 := ?_) (v := ?_) (by rfl) rfl ?_ ?_
          rotate_left 2
          · go_simp
            constructor
            · rfl
            · rfl
          refine hK.out _ _ ⟨pw_cell_below (below1 _ _) (hHeld.1), pw_cell_below (below1 _ _) (hHeld.2.1), pw_cell_below (below1 _ _) (hHeld.2.2.1), pw_cell_below (below1 _ _) (hHeld.2.2.2.1), pw_cell_below (below1 _ _) (hHeld.2.2.2.2)⟩ (fun hHeld => ?_)
          clear hK K
          refine norm_ (a' := ?_) ?_ ?_
          rotate_left
          · show Act.put _ (some 18) _ = _
            simp only [Act.put, List.setIfInBounds_toArray, List.set_cons_zero, List.set_cons_succ, i64_w, i32_w]
            rfl
          refine one_ (i := 1) (N := some 138) #[true, true, true, false, false, false, false, true, false, false] rfl rfl (one_of HT_.out (by kernel_rfl)) (by decide) (fun K hK => ?_)
          refine goes_ Try.func10 (by kernel_rfl) rfl #[.agg #[.int .i64 ma, .slice A l.length c]] (by rfl) rfl rfl (by simp only [List.map_toArray, List.map_cons, List.map_nil]; first | rfl | (refine congrArg List.toArray (congr (congrArg List.cons ?_) (congrArg (fun z => [z]) ?_)) <;> first | rfl | go_simp)) ?_
          with_reducible refine (copy_C l ma A c _ (Kd.C_below C_l.out (bt (bt (bt (bt (bt (bt (bt (bt (bt (bt (bt (bt (bt (bt (bt (bt (bt (bt (bt (bt N_w1.out N_w2.out) N_w3.out) N_w4.out) N_w5.out) N_w6.out) N_w7.out) N_w8.out) N_w9.out) N_wA.out) N_wB.out) N_wC.out) N_wD.out) N_wE.out) N_wF.out) N_wG.out) N_wH.out) N_wI.out) N_wJ.out) N_wK.out) (below1 _ _).drew)) hl HR).mono ?_
          rintro e wa ⟨Ac, cc, rfl, hcc, hCc, hba⟩
          refine ⟨_, rfl, ?_⟩
          refine hK.out _ _ ⟨pw_cell_below hba (hHeld.1), pw_cell_below hba (hHeld.2.1), pw_cell_below hba (hHeld.2.2.1), pw_cell_below hba (hHeld.2.2.2.1), pw_cell_below hba (hHeld.2.2.2.2)⟩ (fun hHeld => ?_)
          clear hK K
          refine norm_ (a' := ?_) ?_ ?_
          rotate_left
          · show Act.put _ (some 138) _ = _
            simp only [Act.put, List.setIfInBounds_toArray, List.set_cons_zero, List.set_cons_succ, i64_w, i32_w]
            rfl
          refine one_ (i := 3) (N := some 140) #[true, true, true, true, false, false, false, true, false, false] rfl rfl (one_of HT_.out (by kernel_rfl)) (by decide) (fun K hK => ?_)
          refine goes_ Try.func16 (by kernel_rfl) rfl #[.agg #[.int .i64 ma, .slice Ac l.length cc], .agg #[.int .i64 ma, .int .i64 ma, .slice A_d (since l ma).length c_d]] (by rfl) rfl rfl (by simp only [List.map_toArray, List.map_cons, List.map_nil]; first | rfl | (refine congrArg List.toArray (congr (congrArg List.cons ?_) (congrArg (fun z => [z]) ?_)) <;> first | rfl | go_simp)) ?_
          with_reducible refine (apply_R l (since l ma) l ma ma Ac A_d cc c_d _ (Kd.C_below hCc (Below.refl _ _)) hcc HR (Kd.C_below C_d.out (bt (bt (bt (bt (bt (bt (bt (bt (bt (bt (bt (bt (bt N_w8.out N_w9.out) N_wA.out) N_wB.out) N_wC.out) N_wD.out) N_wE.out) N_wF.out) N_wG.out) N_wH.out) N_wI.out) N_wJ.out) N_wK.out) (bt (below1 _ _).drew hba))) hl_d HR_d hl22 hb22 hmg22).mono ?_
          rintro e wb ⟨Ax, cx, rfl, hcx, hRx, hbb⟩
          refine ⟨_, rfl, ?_⟩
          refine hK.out _ _ ⟨pw_cell_below hbb (hHeld.1), pw_cell_below hbb (hHeld.2.1), pw_cell_below hbb (hHeld.2.2.1), pw_cell_below hbb (hHeld.2.2.2.1), pw_cell_below hbb (hHeld.2.2.2.2)⟩ (fun hHeld => ?_)
          clear hK K
          refine norm_ (a' := ?_) ?_ ?_
          rotate_left
          · show Act.put _ (some 140) _ = _
            simp only [Act.put, List.setIfInBounds_toArray, List.set_cons_zero, List.set_cons_succ, i64_w, i32_w]
            rfl
          refine pure_ (i := 4) (N := some 136) (v := ?_) (a' := ?_) #[true, true, true, true, true, false, false, true, false, false] rfl rfl (any_of HT_.out (by kernel_rfl)) (fun _ _ _ h => h) (Or.inl ⟨by rfl, ?_⟩) ?_ ?_
          rotate_left
          · intro w'
            go_simp
            with_reducible rfl
          rotate_left
          · simp only [Act.put, List.setIfInBounds_toArray, List.set_cons_zero, List.set_cons_succ, i64_w, i32_w]
            rfl
          refine pure_ (i := 5) (N := some 141) (v := ?_) (a' := ?_) #[true, true, true, true, true, true, false, true, false, false] rfl rfl (any_of HT_.out (by kernel_rfl)) (fun _ _ _ h => h) (Or.inl ⟨by rfl, ?_⟩) ?_ ?_
          rotate_left
          · intro w'
            go_simp
            with_reducible rfl
          rotate_left
          · simp only [Act.put, List.setIfInBounds_toArray, List.set_cons_zero, List.set_cons_succ, i64_w, i32_w]
            rfl
          refine pure_ (i := 6) (N := some 142) (v := ?_) (a' := ?_) #[true, true, true, true, true, true, true, true, false, false] rfl rfl (any_of HT_.out (by kernel_rfl)) (fun _ _ _ h => h) (Or.inl ⟨by rfl, ?_⟩) ?_ ?_
          rotate_left
          · intro w'
            go_simp
            with_reducible rfl
          rotate_left
          · simp only [Act.put, List.setIfInBounds_toArray, List.set_cons_zero, List.set_cons_succ, i64_w, i32_w]
            rfl
          exact norm_ (by simp only [putAll, Act.put, List.setIfInBounds_toArray, List.set_cons_zero, List.set_cons_succ]) (hCont (wK.heap.size, Ac, cc, Ax, cx) _ ⟨(bt (bt (below1 _ _).drew hba) hbb), (((zbox_new wK).below (Below.refl _ _).drew).below hba).below hbb, Nat.le_refl _, r_low hRx (show wK.heap.size ≤ wa.heap.size from Below.size (bt (below1 wK (.cells #[.int .i64 0, .slice none 0 0] 24)).drew hba)) (Zbox.lt (((zbox_new wK).below (Below.refl _ _).drew).below hba))⟩)
      rintro ⟨g22, Ac22, cc22, A_22, c_22⟩ wx22 ⟨hF1, hF2, hF3, hF4⟩
      have k0 := hF2.c0
      have k1 := hF2.c1
      have kf := hF2.fr
      refine norm_ (a' := ?_) ?_ ?_
      rotate_left
      · simp only [putAll, Act.put, List.setIfInBounds_toArray, List.set_cons_zero, List.set_cons_succ]
        rfl
      refine last_ (i := 8) (N := none) #[true, true, true, true, true, true, true, true, true, false] rfl rfl (one_of HT_.out (by kernel_rfl)) (by decide) (fun K hK => ?_)
      refine skip_ (w1 := ?_) (by rfl) rfl ?_ ?_
      rotate_left
      · go_simp
        rfl
      refine hK.out _ _ ?_
      clear hK K
      refine pure_ (i := 9) (N := some 19) (v := ?_) (a' := ?_) #[true, true, true, true, true, true, true, true, true, true] rfl rfl (any_of HT_.out (by kernel_rfl)) (fun _ _ _ h => h) (Or.inl ⟨by rfl, ?_⟩) ?_ ?_
      rotate_left
      · intro w'
        go_simp
        with_reducible rfl
      rotate_left
      · simp only [Act.put, List.setIfInBounds_toArray, List.set_cons_zero, List.set_cons_succ, i64_w, i32_w]
        rfl
      refine done_ (done_of HT_.out (by kernel_rfl)) ?_
      obtain ⟨hs1, hs2, hs3, hs4, hs5⟩ := stored ma hF1 hF2 hF3 hF4
      generalize ((wx22.setCell ⟨g22, 0, none⟩ (.int .i64 ma)).setCell ⟨g22, 1, none⟩ (.slice A_22 l.length c_22)) = wM at *
      clear hF1 hF2 hF3 hF4 k0 k1 kf
      have N_wM := Lib.hid hs1
      have C_ag := Lib.hid hs5
      have hl_ag := hs4
      have B_ag_0 := Lib.hid hs2
      have B_ag_1 := Lib.hid hs3
      clear hs1 hs2 hs3 hs4 hs5
      have V_ag_0 : World.cell? wM ⟨g22, 0, none⟩ = some (.int .i64 ma) := pw_cell_below (Below.refl _ _) B_ag_0.out
      have V_ag_1 : World.cell? wM ⟨g22, 1, none⟩ = some (.slice A_22 l.length c_22) := pw_cell_below (Below.refl _ _) B_ag_1.out
      have V_v_0 : World.cell? wM ⟨w.heap.size, 0, none⟩ = some (.int .i64 ma) := pw_cell_below (bt (bt (bt (bt (bt (bt (bt (bt (bt (bt (bt (bt (bt (bt (bt (bt (bt (bt (bt N_w2.out N_w3.out) N_w4.out) N_w5.out) N_w6.out) N_w7.out) N_w8.out) N_w9.out) N_wA.out) N_wB.out) N_wC.out) N_wD.out) N_wE.out) N_wF.out) N_wG.out) N_wH.out) N_wI.out) N_wJ.out) N_wK.out) N_wM.out) B_v_0.out
      have V_v_1 : World.cell? wM ⟨w.heap.size, 1, none⟩ = some (.slice A l.length c) := pw_cell_below (bt (bt (bt (bt (bt (bt (bt (bt (bt (bt (bt (bt (bt (bt (bt (bt (bt (bt (bt N_w2.out N_w3.out) N_w4.out) N_w5.out) N_w6.out) N_w7.out) N_w8.out) N_w9.out) N_wA.out) N_wB.out) N_wC.out) N_wD.out) N_wE.out) N_wF.out) N_wG.out) N_wH.out) N_wI.out) N_wJ.out) N_wK.out) N_wM.out) B_v_1.out
      go_wp2_with (first
        | (go_at_call 18; (with_reducible refine (same_C l ma A_22 A c_22 c _ (Kd.C_below C_ag.out (Below.refl _ _)) hl_ag (Kd.C_below C_l.out (bt (bt (bt (bt (bt (bt (bt (bt (bt (bt (bt (bt (bt (bt (bt (bt (bt (bt (bt (bt N_w1.out N_w2.out) N_w3.out) N_w4.out) N_w5.out) N_w6.out) N_w7.out) N_w8.out) N_w9.out) N_wA.out) N_wB.out) N_wC.out) N_wD.out) N_wE.out) N_wF.out) N_wG.out) N_wH.out) N_wI.out) N_wJ.out) N_wK.out) N_wM.out)) hl).mono ?_; rintro e wN ⟨rfl, hb⟩; clear V_ag_0 V_ag_1 V_v_0 V_v_1; have N_wN := Lib.hid (bt (x := wM) (Below.refl _ _) hb); clear hb))
        )
      go_ret
      exact ⟨rfl, (bt (bt (bt (bt (bt (bt (bt (bt (bt (bt (bt (bt (bt (bt (bt (bt (bt (bt (bt (bt (bt N_w1.out N_w2.out) N_w3.out) N_w4.out) N_w5.out) N_w6.out) N_w7.out) N_w8.out) N_w9.out) N_wA.out) N_wB.out) N_wC.out) N_wD.out) N_wE.out) N_wF.out) N_wG.out) N_wH.out) N_wI.out) N_wJ.out) N_wK.out) N_wM.out) N_wN.out)⟩
    · skip
      have t9 : (ma == nx) = false := by simpa using qe
      refine start_ (n := 10) (S := fun w' => w'.cell? ⟨w.heap.size, 0, none⟩ = some (.int .i64 nx) ∧ w'.cell? ⟨w.heap.size, 1, none⟩ = some (.slice A l.length c) ∧ w'.cell? ⟨w7.heap.size, 0, none⟩ = some (.int .i64 ma) ∧ w'.cell? ⟨w7.heap.size, 1, none⟩ = some (.int .i64 nx) ∧ w'.cell? ⟨w7.heap.size, 2, none⟩ = some (.slice A_d (since l ma).length c_d)) (ds := [8]) #[false, false, false, false, false, false, false, false, false, false] (by kernel_rfl) rfl rfl ⟨pw_cell_below (bt (bt (bt (bt (bt (bt (bt (bt (bt (bt (bt (bt (bt (bt (bt (bt (bt (bt (bt N_w2.out N_w3.out) N_w4.out) N_w5.out) N_w6.out) N_w7.out) N_w8.out) N_w9.out) N_wA.out) N_wB.out) N_wC.out) N_wD.out) N_wE.out) N_wF.out) N_wG.out) N_wH.out) N_wI.out) N_wJ.out) N_wK.out) (Below.refl _ _).drew) B_v_0.out, pw_cell_below (bt (bt (bt (bt (bt (bt (bt (bt (bt (bt (bt (bt (bt (bt (bt (bt (bt (bt (bt N_w2.out N_w3.out) N_w4.out) N_w5.out) N_w6.out) N_w7.out) N_w8.out) N_w9.out) N_wA.out) N_wB.out) N_wC.out) N_wD.out) N_wE.out) N_wF.out) N_wG.out) N_wH.out) N_wI.out) N_wJ.out) N_wK.out) (Below.refl _ _).drew) B_v_1.out, pw_cell_below (bt (bt (bt (bt (bt (bt (bt (bt (bt (bt (bt (bt N_w9.out N_wA.out) N_wB.out) N_wC.out) N_wD.out) N_wE.out) N_wF.out) N_wG.out) N_wH.out) N_wI.out) N_wJ.out) N_wK.out) (Below.refl _ _).drew) B_d_0.out, pw_cell_below (bt (bt (bt (bt (bt (bt (bt (bt (bt (bt (bt (bt N_w9.out N_wA.out) N_wB.out) N_wC.out) N_wD.out) N_wE.out) N_wF.out) N_wG.out) N_wH.out) N_wI.out) N_wJ.out) N_wK.out) (Below.refl _ _).drew) B_d_1.out, pw_cell_below (bt (bt (bt (bt (bt (bt (bt (bt (bt (bt (bt (bt N_w9.out N_wA.out) N_wB.out) N_wC.out) N_wD.out) N_wE.out) N_wF.out) N_wG.out) N_wH.out) N_wI.out) N_wJ.out) N_wK.out) (Below.refl _ _).drew) B_d_2.out⟩ (fun hHeld => ?_)
      refine with_tabW fW.tab22 fW.bits22 (fun HT_ HW_ => ?_)
      refine take_ (i := 0) (N := some 137) (v := ?_) (a' := ?_) #[true, false, false, false, false, false, false, false, false, false] rfl rfl (take_ofW HT_.out HW_.out (by kernel_rfl)) (fun _ _ _ h => h) (Or.inl ⟨by rfl, ?_⟩) hHeld ?_ ?_
      rotate_left
      · rintro w' ⟨s0, s1, s2, s3, s4⟩
        go_simp
        with_reducible rfl
      rotate_left
      · simp only [Act.put, List.setIfInBounds_toArray, List.set_cons_zero, List.set_cons_succ, i64_w, i32_w]
        rfl
      refine take_ (i := 2) (N := some 139) (v := ?_) (a' := ?_) #[true, false, true, false, false, false, false, false, false, false] rfl rfl (take_ofW HT_.out HW_.out (by kernel_rfl)) (fun _ _ _ h => h) (Or.inl ⟨by rfl, ?_⟩) hHeld ?_ ?_
      rotate_left
      · rintro w' ⟨s0, s1, s2, s3, s4⟩
        go_simp
        with_reducible rfl
      rotate_left
      · simp only [Act.put, List.setIfInBounds_toArray, List.set_cons_zero, List.set_cons_succ, i64_w, i32_w]
        rfl
      refine join_ (σ := Nat × Option Addr × Nat) 2 #[true, true, true, true, true, true, true, true, false, false] (fun s => [(138, .agg #[.int .i64 nx, .slice s.2.1 l.length s.2.2]), (140, .tuple #[.agg #[.int .i64 0, .slice none 0 0], .int .i64 91]), (136, .tuple #[.agg #[.int .i64 0, .slice none 0 0], .int .i64 91]), (141, .agg #[.int .i64 0, .slice none 0 0]), (142, .int .i64 91), (18, .pointer (some ⟨s.1, 0, none⟩))]) (fun s w' => (Below wK.heap.size wK w' ∧ Zbox w' s.1 ∧ wK.heap.size ≤ s.1)) ?_ ?_
      rotate_left
      · intro hCont
        refine two_ (i := 1) (j := 7) (Ni := some 138) (Nj := some 18) #[true, true, true, false, false, false, false, false, false, false] #[true, false, true, false, false, false, false, true, false, false] rfl rfl rfl rfl (two_of HT_.out (by kernel_rfl)) (by decide) (by decide) (fun K hK => ?_) (fun K hK => ?_)
        · skip
          refine goes_ Try.func10 (by kernel_rfl) rfl #[.agg #[.int .i64 nx, .slice A l.length c]] (by rfl) rfl rfl (by simp only [List.map_toArray, List.map_cons, List.map_nil]; first | rfl | (refine congrArg List.toArray (congr (congrArg List.cons ?_) (congrArg (fun z => [z]) ?_)) <;> first | rfl | go_simp)) ?_
          with_reducible refine (copy_C l nx A c _ (Kd.C_below C_l.out (bt (bt (bt (bt (bt (bt (bt (bt (bt (bt (bt (bt (bt (bt (bt (bt (bt (bt (bt (bt N_w1.out N_w2.out) N_w3.out) N_w4.out) N_w5.out) N_w6.out) N_w7.out) N_w8.out) N_w9.out) N_wA.out) N_wB.out) N_wC.out) N_wD.out) N_wE.out) N_wF.out) N_wG.out) N_wH.out) N_wI.out) N_wJ.out) N_wK.out) (Below.refl _ _).drew)) hl HR).mono ?_
          rintro e wa ⟨Ac, cc, rfl, hcc, hCc, hba⟩
          refine ⟨_, rfl, ?_⟩
          refine hK.out _ _ ⟨pw_cell_below hba (hHeld.1), pw_cell_below hba (hHeld.2.1), pw_cell_below hba (hHeld.2.2.1), pw_cell_below hba (hHeld.2.2.2.1), pw_cell_below hba (hHeld.2.2.2.2)⟩ (fun hHeld => ?_)
          clear hK K
          refine norm_ (a' := ?_) ?_ ?_
          rotate_left
          · show Act.put _ (some 138) _ = _
            simp only [Act.put, List.setIfInBounds_toArray, List.set_cons_zero, List.set_cons_succ, i64_w, i32_w]
            rfl
          refine two_ (i := 3) (j := 7) (Ni := some 140) (Nj := some 18) #[true, true, true, true, false, false, false, false, false, false] #[true, true, true, false, false, false, false, true, false, false] rfl rfl rfl rfl (two_of HT_.out (by kernel_rfl)) (by decide) (by decide) (fun K hK => ?_) (fun K hK => ?_)
          · skip
            refine goes_ Try.func16 (by kernel_rfl) rfl #[.agg #[.int .i64 nx, .slice Ac l.length cc], .agg #[.int .i64 ma, .int .i64 nx, .slice A_d (since l ma).length c_d]] (by rfl) rfl rfl (by simp only [List.map_toArray, List.map_cons, List.map_nil]; first | rfl | (refine congrArg List.toArray (congr (congrArg List.cons ?_) (congrArg (fun z => [z]) ?_)) <;> first | rfl | go_simp)) ?_
            with_reducible refine (apply_no l (since l ma) nx ma nx Ac A_d cc c_d _ qe).mono ?_
            rintro e wb ⟨rfl, hbb⟩
            refine ⟨_, rfl, ?_⟩
            refine hK.out _ _ ⟨pw_cell_below hbb (hHeld.1), pw_cell_below hbb (hHeld.2.1), pw_cell_below hbb (hHeld.2.2.1), pw_cell_below hbb (hHeld.2.2.2.1), pw_cell_below hbb (hHeld.2.2.2.2)⟩ (fun hHeld => ?_)
            clear hK K
            refine norm_ (a' := ?_) ?_ ?_
            rotate_left
            · show Act.put _ (some 140) _ = _
              simp only [Act.put, List.setIfInBounds_toArray, List.set_cons_zero, List.set_cons_succ, i64_w, i32_w]
              rfl
            refine pure_ (i := 4) (N := some 136) (v := ?_) (a' := ?_) #[true, true, true, true, true, false, false, false, false, false] rfl rfl (any_of HT_.out (by kernel_rfl)) (fun _ _ _ h => h) (Or.inl ⟨by rfl, ?_⟩) ?_ ?_
            rotate_left
            · intro w'
              go_simp
              with_reducible rfl
            rotate_left
            · simp only [Act.put, List.setIfInBounds_toArray, List.set_cons_zero, List.set_cons_succ, i64_w, i32_w]
              rfl
            refine pure_ (i := 5) (N := some 141) (v := ?_) (a' := ?_) #[true, true, true, true, true, true, false, false, false, false] rfl rfl (any_of HT_.out (by kernel_rfl)) (fun _ _ _ h => h) (Or.inl ⟨by rfl, ?_⟩) ?_ ?_
            rotate_left
            · intro w'
              go_simp
              with_reducible rfl
            rotate_left
            · simp only [Act.put, List.setIfInBounds_toArray, List.set_cons_zero, List.set_cons_succ, i64_w, i32_w]
              rfl
            refine pure_ (i := 6) (N := some 142) (v := ?_) (a' := ?_) #[true, true, true, true, true, true, true, false, false, false] rfl rfl (any_of HT_.out (by kernel_rfl)) (fun _ _ _ h => h) (Or.inl ⟨by rfl, ?_⟩) ?_ ?_
            rotate_left
            · intro w'
              go_simp
              with_reducible rfl
            rotate_left
            · simp only [Act.put, List.setIfInBounds_toArray, List.set_cons_zero, List.set_cons_succ, i64_w, i32_w]
              rfl
            refine one_ (i := 7) (N := some 18) #[true, true, true, true, true, true, true, true, false, false] rfl rfl (one_of HT_.out (by kernel_rfl)) (by decide) (fun K hK => ?_)
            refine value_ (w1 := ?_) (v := ?_) (by rfl) rfl ?_ ?_
            rotate_left 2
            · go_simp
              constructor
              · rfl
              · rfl
            refine hK.out _ _ ⟨pw_cell_below (below1 _ _) (hHeld.1), pw_cell_below (below1 _ _) (hHeld.2.1), pw_cell_below (below1 _ _) (hHeld.2.2.1), pw_cell_below (below1 _ _) (hHeld.2.2.2.1), pw_cell_below (below1 _ _) (hHeld.2.2.2.2)⟩ (fun hHeld => ?_)
            clear hK K
            refine norm_ (a' := ?_) ?_ ?_
            rotate_left
            · show Act.put _ (some 18) _ = _
              simp only [Act.put, List.setIfInBounds_toArray, List.set_cons_zero, List.set_cons_succ, i64_w, i32_w]
              rfl
            exact norm_ (by simp only [putAll, Act.put, List.setIfInBounds_toArray, List.set_cons_zero, List.set_cons_succ]) (hCont (wb.heap.size, Ac, cc) _ ⟨(bt (bt (bt (Below.refl _ _).drew hba) hbb) (below1 _ _)), zbox_new _, ((bt (bt (Below.refl wK.heap.size wK).drew hba) hbb)).size⟩)
          · skip
            refine value_ (w1 := ?_) (v := ?_) (by rfl) rfl ?_ ?_
            rotate_left 2
            · go_simp
              constructor
              · rfl
              · rfl
            refine hK.out _ _ ⟨pw_cell_below (below1 _ _) (hHeld.1), pw_cell_below (below1 _ _) (hHeld.2.1), pw_cell_below (below1 _ _) (hHeld.2.2.1), pw_cell_below (below1 _ _) (hHeld.2.2.2.1), pw_cell_below (below1 _ _) (hHeld.2.2.2.2)⟩ (fun hHeld => ?_)
            clear hK K
            refine norm_ (a' := ?_) ?_ ?_
            rotate_left
            · show Act.put _ (some 18) _ = _
              simp only [Act.put, List.setIfInBounds_toArray, List.set_cons_zero, List.set_cons_succ, i64_w, i32_w]
              rfl
            refine one_ (i := 3) (N := some 140) #[true, true, true, true, false, false, false, true, false, false] rfl rfl (one_of HT_.out (by kernel_rfl)) (by decide) (fun K hK => ?_)
            refine goes_ Try.func16 (by kernel_rfl) rfl #[.agg #[.int .i64 nx, .slice Ac l.length cc], .agg #[.int .i64 ma, .int .i64 nx, .slice A_d (since l ma).length c_d]] (by rfl) rfl rfl (by simp only [List.map_toArray, List.map_cons, List.map_nil]; first | rfl | (refine congrArg List.toArray (congr (congrArg List.cons ?_) (congrArg (fun z => [z]) ?_)) <;> first | rfl | go_simp)) ?_
            with_reducible refine (apply_no l (since l ma) nx ma nx Ac A_d cc c_d _ qe).mono ?_
            rintro e wb ⟨rfl, hbb⟩
            refine ⟨_, rfl, ?_⟩
            refine hK.out _ _ ⟨pw_cell_below hbb (hHeld.1), pw_cell_below hbb (hHeld.2.1), pw_cell_below hbb (hHeld.2.2.1), pw_cell_below hbb (hHeld.2.2.2.1), pw_cell_below hbb (hHeld.2.2.2.2)⟩ (fun hHeld => ?_)
            clear hK K
            refine norm_ (a' := ?_) ?_ ?_
            rotate_left
            · show Act.put _ (some 140) _ = _
              simp only [Act.put, List.setIfInBounds_toArray, List.set_cons_zero, List.set_cons_succ, i64_w, i32_w]
              rfl
            refine pure_ (i := 4) (N := some 136) (v := ?_) (a' := ?_) #[true, true, true, true, true, false, false, true, false, false] rfl rfl (any_of HT_.out (by kernel_rfl)) (fun _ _ _ h => h) (Or.inl ⟨by rfl, ?_⟩) ?_ ?_
            rotate_left
            · intro w'
              go_simp
              with_reducible rfl
            rotate_left
            · simp only [Act.put, List.setIfInBounds_toArray, List.set_cons_zero, List.set_cons_succ, i64_w, i32_w]
              rfl
            refine pure_ (i := 5) (N := some 141) (v := ?_) (a' := ?_) #[true, true, true, true, true, true, false, true, false, false] rfl rfl (any_of HT_.out (by kernel_rfl)) (fun _ _ _ h => h) (Or.inl ⟨by rfl, ?_⟩) ?_ ?_
            rotate_left
            · intro w'
              go_simp
              with_reducible rfl
            rotate_left
            · simp only [Act.put, List.setIfInBounds_toArray, List.set_cons_zero, List.set_cons_succ, i64_w, i32_w]
              rfl
            refine pure_ (i := 6) (N := some 142) (v := ?_) (a' := ?_) #[true, true, true, true, true, true, true, true, false, false] rfl rfl (any_of HT_.out (by kernel_rfl)) (fun _ _ _ h => h) (Or.inl ⟨by rfl, ?_⟩) ?_ ?_
            rotate_left
            · intro w'
              go_simp
              with_reducible rfl
            rotate_left
            · simp only [Act.put, List.setIfInBounds_toArray, List.set_cons_zero, List.set_cons_succ, i64_w, i32_w]
              rfl
            exact norm_ (by simp only [putAll, Act.put, List.setIfInBounds_toArray, List.set_cons_zero, List.set_cons_succ]) (hCont (wa.heap.size, Ac, cc) _ ⟨(bt (bt (bt (Below.refl _ _).drew hba) (below1 _ _)) hbb), (zbox_new _).below hbb, ((bt (Below.refl wK.heap.size wK).drew hba)).size⟩)
        · skip
          refine value_ (w1 := ?_) (v := ?_) (by rfl) rfl ?_ ?_
          rotate_left 2
          · go_simp
            constructor
            · rfl
            · rfl
          refine hK.out _ _ ⟨pw_cell_below (below1 _ _) (hHeld.1), pw_cell_below (below1 _ _) (hHeld.2.1), pw_cell_below (below1 _ _) (hHeld.2.2.1), pw_cell_below (below1 _ _) (hHeld.2.2.2.1), pw_cell_below (below1 _ _) (hHeld.2.2.2.2)⟩ (fun hHeld => ?_)
          clear hK K
          refine norm_ (a' := ?_) ?_ ?_
          rotate_left
          · show Act.put _ (some 18) _ = _
            simp only [Act.put, List.setIfInBounds_toArray, List.set_cons_zero, List.set_cons_succ, i64_w, i32_w]
            rfl
          refine one_ (i := 1) (N := some 138) #[true, true, true, false, false, false, false, true, false, false] rfl rfl (one_of HT_.out (by kernel_rfl)) (by decide) (fun K hK => ?_)
          refine goes_ Try.func10 (by kernel_rfl) rfl #[.agg #[.int .i64 nx, .slice A l.length c]] (by rfl) rfl rfl (by simp only [List.map_toArray, List.map_cons, List.map_nil]; first | rfl | (refine congrArg List.toArray (congr (congrArg List.cons ?_) (congrArg (fun z => [z]) ?_)) <;> first | rfl | go_simp)) ?_
          with_reducible refine (copy_C l nx A c _ (Kd.C_below C_l.out (bt (bt (bt (bt (bt (bt (bt (bt (bt (bt (bt (bt (bt (bt (bt (bt (bt (bt (bt (bt N_w1.out N_w2.out) N_w3.out) N_w4.out) N_w5.out) N_w6.out) N_w7.out) N_w8.out) N_w9.out) N_wA.out) N_wB.out) N_wC.out) N_wD.out) N_wE.out) N_wF.out) N_wG.out) N_wH.out) N_wI.out) N_wJ.out) N_wK.out) (below1 _ _).drew)) hl HR).mono ?_
          rintro e wa ⟨Ac, cc, rfl, hcc, hCc, hba⟩
          refine ⟨_, rfl, ?_⟩
          refine hK.out _ _ ⟨pw_cell_below hba (hHeld.1), pw_cell_below hba (hHeld.2.1), pw_cell_below hba (hHeld.2.2.1), pw_cell_below hba (hHeld.2.2.2.1), pw_cell_below hba (hHeld.2.2.2.2)⟩ (fun hHeld => ?_)
          clear hK K
          refine norm_ (a' := ?_) ?_ ?_
          rotate_left
          · show Act.put _ (some 138) _ = _
            simp only [Act.put, List.setIfInBounds_toArray, List.set_cons_zero, List.set_cons_succ, i64_w, i32_w]
            rfl
          refine one_ (i := 3) (N := some 140) #[true, true, true, true, false, false, false, true, false, false] rfl rfl (one_of HT_.out (by kernel_rfl)) (by decide) (fun K hK => ?_)
          refine goes_ Try.func16 (by kernel_rfl) rfl #[.agg #[.int .i64 nx, .slice Ac l.length cc], .agg #[.int .i64 ma, .int .i64 nx, .slice A_d (since l ma).length c_d]] (by rfl) rfl rfl (by simp only [List.map_toArray, List.map_cons, List.map_nil]; first | rfl | (refine congrArg List.toArray (congr (congrArg List.cons ?_) (congrArg (fun z => [z]) ?_)) <;> first | rfl | go_simp)) ?_
          with_reducible refine (apply_no l (since l ma) nx ma nx Ac A_d cc c_d _ qe).mono ?_
          rintro e wb ⟨rfl, hbb⟩
          refine ⟨_, rfl, ?_⟩
          refine hK.out _ _ ⟨pw_cell_below hbb (hHeld.1), pw_cell_below hbb (hHeld.2.1), pw_cell_below hbb (hHeld.2.2.1), pw_cell_below hbb (hHeld.2.2.2.1), pw_cell_below hbb (hHeld.2.2.2.2)⟩ (fun hHeld => ?_)
          clear hK K
          refine norm_ (a' := ?_) ?_ ?_
          rotate_left
          · show Act.put _ (some 140) _ = _
            simp only [Act.put, List.setIfInBounds_toArray, List.set_cons_zero, List.set_cons_succ, i64_w, i32_w]
            rfl
          refine pure_ (i := 4) (N := some 136) (v := ?_) (a' := ?_) #[true, true, true, true, true, false, false, true, false, false] rfl rfl (any_of HT_.out (by kernel_rfl)) (fun _ _ _ h => h) (Or.inl ⟨by rfl, ?_⟩) ?_ ?_
          rotate_left
          · intro w'
            go_simp
            with_reducible rfl
          rotate_left
          · simp only [Act.put, List.setIfInBounds_toArray, List.set_cons_zero, List.set_cons_succ, i64_w, i32_w]
            rfl
          refine pure_ (i := 5) (N := some 141) (v := ?_) (a' := ?_) #[true, true, true, true, true, true, false, true, false, false] rfl rfl (any_of HT_.out (by kernel_rfl)) (fun _ _ _ h => h) (Or.inl ⟨by rfl, ?_⟩) ?_ ?_
          rotate_left
          · intro w'
            go_simp
            with_reducible rfl
          rotate_left
          · simp only [Act.put, List.setIfInBounds_toArray, List.set_cons_zero, List.set_cons_succ, i64_w, i32_w]
            rfl
          refine pure_ (i := 6) (N := some 142) (v := ?_) (a' := ?_) #[true, true, true, true, true, true, true, true, false, false] rfl rfl (any_of HT_.out (by kernel_rfl)) (fun _ _ _ h => h) (Or.inl ⟨by rfl, ?_⟩) ?_ ?_
          rotate_left
          · intro w'
            go_simp
            with_reducible rfl
          rotate_left
          · simp only [Act.put, List.setIfInBounds_toArray, List.set_cons_zero, List.set_cons_succ, i64_w, i32_w]
            rfl
          exact norm_ (by simp only [putAll, Act.put, List.setIfInBounds_toArray, List.set_cons_zero, List.set_cons_succ]) (hCont (wK.heap.size, Ac, cc) _ ⟨(bt (bt (below1 _ _).drew hba) hbb), (((zbox_new wK).below (Below.refl _ _).drew).below hba).below hbb, Nat.le_refl _⟩)
      rintro ⟨g22, Ac22, cc22⟩ wx22 ⟨hF1, hF2, hF3⟩
      have k0 := hF2.c0
      have k1 := hF2.c1
      have kf := hF2.fr
      refine norm_ (a' := ?_) ?_ ?_
      rotate_left
      · simp only [putAll, Act.put, List.setIfInBounds_toArray, List.set_cons_zero, List.set_cons_succ]
        rfl
      refine last_ (i := 8) (N := none) #[true, true, true, true, true, true, true, true, true, false] rfl rfl (one_of HT_.out (by kernel_rfl)) (by decide) (fun K hK => ?_)
      refine skip_ (w1 := ?_) (by rfl) rfl ?_ ?_
      rotate_left
      · go_simp
        rfl
      refine hK.out _ _ ?_
      clear hK K
      refine pure_ (i := 9) (N := some 19) (v := ?_) (a' := ?_) #[true, true, true, true, true, true, true, true, true, true] rfl rfl (any_of HT_.out (by kernel_rfl)) (fun _ _ _ h => h) (Or.inl ⟨by rfl, ?_⟩) ?_ ?_
      rotate_left
      · intro w'
        go_simp
        with_reducible rfl
      rotate_left
      · simp only [Act.put, List.setIfInBounds_toArray, List.set_cons_zero, List.set_cons_succ, i64_w, i32_w]
        rfl
      refine done_ (done_of HT_.out (by kernel_rfl)) ?_
      obtain ⟨hs1, hs2, hs3⟩ := stored0 hF1 hF2 hF3
      generalize ((wx22.setCell ⟨g22, 0, none⟩ (.int .i64 0)).setCell ⟨g22, 1, none⟩ (.slice none 0 0)) = wM at *
      clear hF1 hF2 hF3 k0 k1 kf
      have N_wM := Lib.hid hs1
      have V_v_0 : World.cell? wM ⟨w.heap.size, 0, none⟩ = some (.int .i64 nx) := pw_cell_below (bt (bt (bt (bt (bt (bt (bt (bt (bt (bt (bt (bt (bt (bt (bt (bt (bt (bt (bt N_w2.out N_w3.out) N_w4.out) N_w5.out) N_w6.out) N_w7.out) N_w8.out) N_w9.out) N_wA.out) N_wB.out) N_wC.out) N_wD.out) N_wE.out) N_wF.out) N_wG.out) N_wH.out) N_wI.out) N_wJ.out) N_wK.out) N_wM.out) B_v_0.out
      have V_v_1 : World.cell? wM ⟨w.heap.size, 1, none⟩ = some (.slice A l.length c) := pw_cell_below (bt (bt (bt (bt (bt (bt (bt (bt (bt (bt (bt (bt (bt (bt (bt (bt (bt (bt (bt N_w2.out N_w3.out) N_w4.out) N_w5.out) N_w6.out) N_w7.out) N_w8.out) N_w9.out) N_wA.out) N_wB.out) N_wC.out) N_wD.out) N_wE.out) N_wF.out) N_wG.out) N_wH.out) N_wI.out) N_wJ.out) N_wK.out) N_wM.out) B_v_1.out
      go_wp2_with (first
        | (go_at_call 18; (with_reducible refine (same_0 _).mono ?_; rintro e wN ⟨rfl, hb⟩; clear V_v_0 V_v_1; have N_wN := Lib.hid (bt (x := wM) (Below.refl _ _) hb); clear hb))
        )
      go_ret
      exact ⟨rfl, (bt (bt (bt (bt (bt (bt (bt (bt (bt (bt (bt (bt (bt (bt (bt (bt (bt (bt (bt (bt (bt N_w1.out N_w2.out) N_w3.out) N_w4.out) N_w5.out) N_w6.out) N_w7.out) N_w8.out) N_w9.out) N_wA.out) N_wB.out) N_wC.out) N_wD.out) N_wE.out) N_wF.out) N_wG.out) N_wH.out) N_wI.out) N_wJ.out) N_wK.out) N_wM.out) N_wN.out)⟩
end Go.Proofs.Ytbhdehkdnenigaa

set_option linter.unusedVariables false
set_option linter.unusedSimpArgs false
namespace Go.Proofs.Ytbhdehkdnenigaa
open Go.RowKit Go.Proofs.YtbhdehkdnenigaaW.PrintWords
set_option maxRecDepth 100000 in
set_option maxHeartbeats 1000000 in
theorem forward_all (l : List Vn) (nx a b : Int) (A : Option Addr) (c : Nat) (w : World) (hC : kVn.C w A l.length l) (hl : l.length ≤ c) (HR : Room l) :
    Calls Try.prog 5 #[.agg #[.int .i64 nx, .slice A l.length c], .int .i64 a, .int .i64 b] w fun e w' => e = .returned (.bool true) ∧ Below w.heap.size w w' := by
  cases hr : rightV l nx with
  | true => exact forward_any l nx a b A c w hC hl HR ((right_iff l nx).1 hr)
  | false =>
    have HRR := fun w' (h : Below w.heap.size w w') => Lib.hid (refRight_any l nx A c w' (Kd.C_below hC h) hl HR.fits)
    rw [hr] at HRR
    clear hC hr
    go_enter Try.func5, Try.ntmps5
    go_wp2_with (first
      | (go_at_call 8; with_reducible refine (first_any _).mono ?_; rintro e w1 ⟨rfl, hb⟩; have N1 := Lib.hid (bt (below1 w _) hb); have v0 : w1.cell? ⟨w.heap.size, 0, none⟩ = some (.int .i64 nx) := box_cell hb (i := 0) rfl; have v1 : w1.cell? ⟨w.heap.size, 1, none⟩ = some (.slice A l.length c) := box_cell hb (i := 1) rfl; clear hb)
      | (go_at_call 12; with_reducible refine (HRR _ N1.out).out.mono ?_; rintro e w2 ⟨rfl, hb⟩; have N2 := Lib.hid (bt N1.out hb)))
    go_ret
    exact ⟨rfl, N2.out⟩
end Go.Proofs.Ytbhdehkdnenigaa

set_option linter.unusedVariables false
set_option linter.unusedSimpArgs false
namespace Go.Proofs.Ytbhdehkdnenigaa
open Go.ChangeShapes Go.WideShapes Go.ChangeAt Go.RowKit
theorem own : ownKnob Try.prog.godebug = none := by kernel_rfl
theorem laidOut : laidOutB Try.prog = true := by kernel_rfl
theorem trodAll_below {H : Type} {enc : TypeId × Value → H} {W W' : World} (hb : Below W.heap.size W W') : ∀ (ts : List TypeId) (vs : List Value) (ds : List (DataW H)) (ps : List MemPlace),
    (∀ t ∈ ts, Try.prog.readableRec t = true ∧ t < Try.prog.types.size) → DataW.TrodAll enc Try.prog W 0 (fun _ => true) true ts vs ds ps → (∀ x ∈ ps, x.block < W.heap.size) →
    DataW.TrodAll enc Try.prog W' 0 (fun b => decide (b < W.heap.size)) true ts vs ds ps
  | [], [], [], _, _, h, _ => h
  | t :: ts, v :: vs, d :: ds, ps, hr, ⟨p, q, h1, h2, e⟩, hlt => by
    subst e
    have ht := hr t List.mem_cons_self
    exact ⟨p, q, Below.trod laidOut ht.1 ht.2 h1 hb (fun x hx => hlt x (List.mem_append_left _ hx)), trodAll_below hb ts vs ds q (fun x hx => hr x (List.mem_cons_of_mem _ hx)) h2 (fun x hx => hlt x (List.mem_append_right _ hx)), rfl⟩
  | [], _ :: _, _, _, _, h, _ => h.elim
  | [], [], _ :: _, _, _, h, _ => h.elim
  | _ :: _, [], _, _, _, h, _ => h.elim
  | _ :: _, _ :: _, [], _, _, h, _ => h.elim
theorem law_post {H : Type} {enc : TypeId × Value → H} {s : ChangeSpec} {f : Func} {apart fresh handsOn : Bool} {W W' : World} {args : Array Value} {ds gs : List (DataW H)} {before : List MemPlace} {tb : TypeId}
    (hvars : s.vars = []) (hr : ∀ t ∈ f.params.toList, Try.prog.readableRec t = true ∧ t < Try.prog.types.size) (hres : f.resultTypes = #[tb]) (hbool : Try.prog.underlying tb = some .bool)
    (hfn : (s.fn H (ds ++ gs)).results = [.lit (.bool true)] ∧ (s.fn H (ds ++ gs)).args = ds ∧ (s.fn H (ds ++ gs)).vars = [])
    (hW : DataW.Whole enc Try.prog f.params.toList s.vars apart W args.toList ds gs before) (hb : Below W.heap.size W W') :
    s.post enc Try.prog f apart fresh handsOn false W args (.bool true) W' := by
  have hW' := hW
  have hlt := hW.lt
  obtain ⟨p, q, hA, hV, rfl, hfz, hnd⟩ := hW
  refine ⟨ds, gs, _, [], p, [], hW', ?_, ?_, ?_, hb.frame _, fun h => by cases h⟩
  · rw [hfn.1, hres]
    exact trodAll_mk1 (shut_bool hbool true)
  · rw [hfn.2.1]
    exact trodAll_below hb _ _ _ _ hr hA (fun x hx => hlt x (List.mem_append_left _ hx))
  · rw [hfn.2.2, hvars]
    rfl
end Go.Proofs.Ytbhdehkdnenigaa

set_option linter.unusedVariables false
set_option linter.unusedSimpArgs false
namespace Go.Proofs.Ytbhdehkdnenigaa
open Go.RowKit Go.ChangeShapes Go.WideShapes Go.Deep Go.Proofs.YtbhdehkdnenigaaW.PrintWords
section
variable {H : Type} {enc : TypeId × Value → H} {w : World} {base : Nat} {spare : Nat → Bool} {held : Bool}
abbrev Light (t : TypeId) (d : DataW H) : Prop := ∀ n ∈ d.weights Try.prog t, n ≤ reachBytes
theorem open_rows {α : Type} (d : Kd α) {t e : TypeId} {fuel B : Nat} {cs : List Value} {x : DataW H × List MemPlace} (ht : Try.prog.underlying t = some (.slice e)) (hC : Try.prog.cellsOf e = d.sz) (hB : Try.prog.bytesOf e = B) (Q : α → Prop)
    (hel : ∀ n cs' y, DataW.trod enc Try.prog w base spare held n e cs' = some y → Light e y.1 → ∃ a, d.K w a cs' ∧ Q a)
    (h : DataW.trod enc Try.prog w base spare held fuel t cs = some x) (hwt : Light t x.1) :
    ∃ (A : Option Addr) (c : Nat) (l : List α), cs = [.slice A l.length c] ∧ l.length ≤ c ∧ d.C w A l.length l ∧ l.length * B ≤ reachBytes ∧ ∀ a ∈ l, Q a := by
  rcases open_slice ht h with ⟨hcs, _⟩ | ⟨a, len, cap, m, n, D, Pl, hcs, hb, hl, hm, hmm, hx, hi⟩
  · exact ⟨none, 0, [], hcs, Nat.le_refl _, ⟨rfl, by simp, fun h => absurd h (by simp)⟩, by simp, fun a ha => by cases ha⟩
  · subst hx
    have hlm : len ≤ m := by rw [hmm]; split <;> omega
    have hw1 : (len + (m - len)) * Try.prog.bytesOf e ≤ reachBytes := by
      have := hwt _ (by simp only [DataW.weights, ht, List.length_map, List.length_range]; exact List.mem_cons_self)
      exact this
    have hw2 : ∀ i, i < len → Light e (D i) := fun i hi k hk => by
      apply hwt
      simp only [DataW.weights, ht]
      refine List.mem_cons_of_mem _ (List.mem_append_left _ ?_)
      have : ∀ (l : List (DataW H)) (z : DataW H), z ∈ l → ∀ k ∈ z.weights Try.prog e, k ∈ DataW.weightsAll Try.prog e l := by
        intro l
        induction l with
        | nil => intro z hz; cases hz
        | cons y r ih =>
          intro z hz k hk
          simp only [DataW.weightsAll, List.mem_append]
          rcases List.mem_cons.1 hz with rfl | hz
          · exact .inl hk
          · exact .inr (ih z hz k hk)
      exact this _ (D i) (List.mem_map_of_mem (List.mem_range.2 hi)) k hk
    have key : ∀ i : Nat, ∃ p : Option α, i < len → ∃ q cs', p = some q ∧ d.K w q cs' ∧ Q q ∧ cs'.length = d.sz ∧ ∀ j u, cs'[j]? = some u → w.cell? (a.add (i * d.sz + j)) = some u := fun i => by
      by_cases hlt : i < len
      · obtain ⟨cs', hc, ht'⟩ := hi i (by omega)
        obtain ⟨q, hk, hq⟩ := hel n cs' _ ht' (hw2 i hlt)
        obtain ⟨_, hcl, hat⟩ := World.cells?_some hc
        refine ⟨some q, fun _ => ⟨q, cs', rfl, hk, hq, by rw [hcl, hC], fun j u hu => ?_⟩⟩
        have hj : j < cs'.length := by
          rcases Nat.lt_or_ge j cs'.length with h | h
          · exact h
          · rw [List.getElem?_eq_none h] at hu; cases hu
        rw [← hC, ← Go.Deep.add_add, hat j (by omega), hu]
      · exact ⟨none, fun h => absurd h hlt⟩
    obtain ⟨f, hf⟩ := Classical.axiomOfChoice key
    have hlen : ((List.range len).filterMap f).length = len ∧ ∀ i, i < len → ((List.range len).filterMap f)[i]? = f i := by
      have hall : ∀ k, k ≤ len → ((List.range k).filterMap f).length = k ∧ ∀ i, i < k → ((List.range k).filterMap f)[i]? = f i := by
        intro k
        induction k with
        | zero => intro _; exact ⟨rfl, fun i hi => absurd hi (Nat.not_lt_zero _)⟩
        | succ k ih =>
          intro hk
          obtain ⟨h1, h2⟩ := ih (by omega)
          obtain ⟨q, _, e, _⟩ := hf k (by omega)
          rw [List.range_succ, List.filterMap_append]
          have e1 : List.filterMap f [k] = [q] := by simp [e]
          rw [e1]
          refine ⟨by rw [List.length_append, h1]; rfl, fun i hi => ?_⟩
          rcases Nat.lt_or_ge i k with h | h
          · rw [List.getElem?_append_left (by omega)]; exact h2 i h
          · obtain rfl : i = k := by omega
            rw [List.getElem?_append_right (by omega), h1, Nat.sub_self, e]; rfl
      exact hall len (Nat.le_refl _)
    refine ⟨some a, cap, (List.range len).filterMap f, by rw [hlen.1]; exact hcs, by rw [hlen.1]; exact hl, ?_, ?_, ?_⟩
    · rw [hlen.1]
      refine ⟨hlen.1, by have : maxLen = 9223372036854775807 := rfl; omega, fun _ => ⟨a, rfl, fun j p hj => ?_⟩⟩
      have hjl : j < len := by
        rcases Nat.lt_or_ge j len with h | h
        · exact h
        · rw [List.getElem?_eq_none (by rw [hlen.1]; exact h)] at hj; cases hj
      rw [hlen.2 j hjl] at hj
      obtain ⟨q, cs', e, hk, hq, hcl, hat⟩ := hf j hjl
      rw [e] at hj
      cases hj
      exact ⟨cs', hcl, hk, hat⟩
    · rw [hlen.1]
      rw [hB] at hw1
      exact Nat.le_trans (Nat.mul_le_mul_right _ (by omega)) hw1
    · intro z hz
      obtain ⟨i, hi, hzi⟩ := List.getElem_of_mem hz
      have hil : i < len := by rw [hlen.1] at hi; exact hi
      have h3 := hlen.2 i hil
      rw [List.getElem?_eq_getElem hi, hzi] at h3
      obtain ⟨q, cs', e, hk, hq, _⟩ := hf i hil
      rw [e] at h3
      cases h3
      exact hq
theorem open_fields {t : TypeId} {fs : Array Field} {fuel : Nat} {cs : List Value} {x : DataW H × List MemPlace} (ht : Try.prog.underlying t = some (.struct fs)) (hone : oneCellFields Try.prog fs = true) (hC : Try.prog.cellsOf t = fs.size)
    (h : DataW.trod enc Try.prog w base spare held fuel t cs = some x) (hwt : Light t x.1) :
    cs.length = fs.size ∧ ∃ (ys : List (DataW H × List MemPlace)) (n : Nat), x.1 = .agg (ys.map (·.1)) ∧ ys.length = fs.size ∧
      ∀ (j : Nat) (f : Field), fs[j]? = some f → ∃ (v : Value) (y : DataW H × List MemPlace), cs[j]? = some v ∧ ys[j]? = some y ∧ DataW.trod enc Try.prog w base spare held n f.type [v] = some y ∧ Light f.type y.1 := by
  obtain ⟨ys, n, _, hx, hcl, hyl, hf⟩ := DataW.trod_struct ht h
  subst hx
  refine ⟨by rw [hcl, hC], ys, n, rfl, hyl, fun j f hj => ?_⟩
  obtain ⟨ho, hk⟩ := hone_of hone j f hj
  have hjl : j < fs.size := (Array.getElem?_eq_some_iff.1 hj).1
  have hjc : j < cs.length := by rw [hcl, hC]; exact hjl
  have hjy : j < ys.length := by rw [hyl]; exact hjl
  have h1 := hf j f hj
  rw [ho, hk] at h1
  have hone' : (cs.drop j).take 1 = [cs[j]] := by
    rw [List.drop_eq_getElem_cons hjc]
    rfl
  rw [hone', List.getElem?_eq_getElem hjy] at h1
  refine ⟨cs[j], ys[j], List.getElem?_eq_getElem hjc, List.getElem?_eq_getElem hjy, h1, fun k hk => ?_⟩
  apply hwt
  simp only [DataW.weights, ht]
  exact DataW.weights_mem_each (j := j) (t := f.type) (d := ys[j].1) (by rw [List.getElem?_map, Array.getElem?_toList, hj]; rfl) (by rw [List.getElem?_map, List.getElem?_eq_getElem hjy]; rfl) k hk
theorem open_text {n : Nat} {v : Value} {y : DataW H × List MemPlace} (h : DataW.trod enc Try.prog w base spare held n 9 [v] = some y) (hw : Light 9 y.1) : ∃ s : ByteArray, v = .string s ∧ s.size ≤ 140737488355328 := by
  obtain ⟨s, e, rfl, _⟩ := DataW.trod_string Try.underlying9 h
  cases e
  refine ⟨s, rfl, ?_⟩
  have := hw s.data.toList.length (by simp [DataW.weights])
  rw [Array.length_toList] at this
  have h2 : s.size = s.data.size := rfl
  unfold reachBytes at this
  omega
theorem open_num {n : Nat} {v : Value} {y : DataW H × List MemPlace} (h : DataW.trod enc Try.prog w base spare held n 2 [v] = some y) : ∃ z : Int, v = .int .i64 z ∧ (Lit.int .i64 z).wf = true := by
  obtain ⟨z, e, _, hz⟩ := DataW.trod_int Try.underlying2 h
  cases e
  exact ⟨z, rfl, hz⟩
theorem open_truth {n : Nat} {v : Value} {y : DataW H × List MemPlace} (h : DataW.trod enc Try.prog w base spare held n 4 [v] = some y) : ∃ b : Bool, v = .bool b := by
  obtain ⟨b, e, _⟩ := DataW.trod_bool Try.underlying4 h
  cases e
  exact ⟨b, rfl⟩
theorem open_pair {n : Nat} {cs : List Value} {y : DataW H × List MemPlace} (h : DataW.trod enc Try.prog w base spare held n 60 cs = some y) (hw : Light 60 y.1) : ∃ p : Pr, kPr.K w p cs ∧ (p.n.size ≤ 140737488355328 ∧ p.v.size ≤ 140737488355328) := by
  obtain ⟨hl, ys, m, _, _, hf⟩ := open_fields Try.underlying60 (by kernel_rfl) (by kernel_rfl) h hw
  obtain ⟨v0, y0, e0, _, t0, w0⟩ := hf 0 _ rfl
  obtain ⟨v1, y1, e1, _, t1, w1⟩ := hf 1 _ rfl
  obtain ⟨a, rfl, ha⟩ := open_text t0 w0
  obtain ⟨b, rfl, hb⟩ := open_text t1 w1
  match cs, hl, e0, e1 with
  | [c0, c1], _, e0, e1 =>
    cases e0
    cases e1
    exact ⟨⟨a, b⟩, kPr_mk w ⟨a, b⟩, ha, hb⟩
def VnOk (x : Vn) : Prop := x.Fits ∧ x.pairs.length * 32 ≤ 140737488351232 ∧ (Lit.int .i64 x.seq).wf = true
theorem open_version {n : Nat} {cs : List Value} {y : DataW H × List MemPlace} (h : DataW.trod enc Try.prog w base spare held n 48 cs = some y) (hw : Light 48 y.1) : ∃ x : Vn, kVn.K w x cs ∧ VnOk x := by
  obtain ⟨hl, ys, m, _, _, hf⟩ := open_fields Try.underlying48 (by kernel_rfl) (by kernel_rfl) h hw
  obtain ⟨v0, y0, e0, _, t0, w0⟩ := hf 0 _ rfl
  obtain ⟨v1, y1, e1, _, t1, w1⟩ := hf 1 _ rfl
  obtain ⟨v2, y2, e2, _, t2, w2⟩ := hf 2 _ rfl
  obtain ⟨v3, y3, e3, _, t3, w3⟩ := hf 3 _ rfl
  obtain ⟨v4, y4, e4, _, t4, w4⟩ := hf 4 _ rfl
  obtain ⟨a, rfl, ha⟩ := open_text t0 w0
  obtain ⟨z, rfl, hz⟩ := open_num t1
  obtain ⟨g, rfl⟩ := open_truth t2
  obtain ⟨b, rfl, hb⟩ := open_text t3 w3
  obtain ⟨A, c, l, e, hc, hC, hB, hQ⟩ := open_rows kPr Try.underlying46 (by kernel_rfl) (by kernel_rfl : _ = 32) (fun p : Pr => p.n.size ≤ 140737488355328 ∧ p.v.size ≤ 140737488355328) (fun n cs' y h hw => open_pair h hw) t4 w4
  cases e
  match cs, hl, e0, e1, e2, e3, e4 with
  | [c0, c1, c2, c3, c4], _, e0, e1, e2, e3, e4 =>
    cases e0
    cases e1
    cases e2
    cases e3
    cases e4
    exact ⟨⟨a, z, g, b, l⟩, kVn_mk w ⟨a, z, g, b, l⟩ hc hC, ⟨ha, hb, hQ⟩, hB, hz⟩
def BkOk (l : List Vn) : Prop := ∀ x ∈ l, (Lit.int .i64 x.seq).wf = true
theorem open_bucket {n : Nat} {cs : List Value} {y : DataW H × List MemPlace} (h : DataW.trod enc Try.prog w base spare held n 24 cs = some y) (hw : Light 24 y.1) :
    ∃ (nx : Int) (A : Option Addr) (c : Nat) (l : List Vn), cs = [.int .i64 nx, .slice A l.length c] ∧ (Lit.int .i64 nx).wf = true ∧ l.length ≤ c ∧ kVn.C w A l.length l ∧ Room l ∧ BkOk l := by
  obtain ⟨hl, ys, m, _, _, hf⟩ := open_fields Try.underlying24 (by kernel_rfl) (by kernel_rfl) h hw
  obtain ⟨v0, y0, e0, _, t0, w0⟩ := hf 0 _ rfl
  obtain ⟨v1, y1, e1, _, t1, w1⟩ := hf 1 _ rfl
  obtain ⟨z, rfl, hz⟩ := open_num t0
  obtain ⟨A, c, l, e, hc, hC, hB, hQ⟩ := open_rows kVn Try.underlying22 (by kernel_rfl) (by kernel_rfl : _ = 72) VnOk (fun n cs' y h hw => open_version h hw) t1 w1
  cases e
  match cs, hl, e0, e1 with
  | [c0, c1], _, e0, e1 =>
    cases e0
    cases e1
    exact ⟨z, A, c, l, rfl, hz, hc, hC, ⟨hB, fun x hx => (hQ x hx).2.1, fun x hx => (hQ x hx).1⟩, fun x hx => (hQ x hx).2.2⟩
theorem light_of {ts : List TypeId} {ds : List (DataW H)} (hz : (DataW.weightsEach Try.prog ts ds).all (· ≤ reachBytes) = true) {j : Nat} {t : TypeId} {d : DataW H} (ht : ts[j]? = some t) (hd : ds[j]? = some d) : Light t d := fun n hn => by
  have := List.all_eq_true.1 hz n (DataW.weights_mem_each ht hd n hn)
  simpa using this
theorem open_bucket_arg {r : Reach} {b0 : Nat} {v : Value} {d : DataW H} {p : List MemPlace} (hv : Value.okWide Try.prog w r b0 24 v) (h : DataW.Trod enc Try.prog w base spare held 24 v d p) (hw : Light 24 d) :
    ∃ (nx : Int) (A : Option Addr) (c : Nat) (l : List Vn), v = .agg #[.int .i64 nx, .slice A l.length c] ∧ (Lit.int .i64 nx).wf = true ∧ l.length ≤ c ∧ kVn.C w A l.length l ∧ Room l ∧ BkOk l := by
  obtain ⟨cs, rfl, hsz⟩ := okWide_struct Try.underlying24 hv
  obtain ⟨fuel, hf⟩ := h
  obtain ⟨nx, A, c, l, e, r⟩ := open_bucket hf hw
  obtain ⟨cs⟩ := cs
  have e2 : cs = [.int .i64 nx, .slice A l.length c] := e
  subst e2
  exact ⟨nx, A, c, l, rfl, r⟩
end
end Go.Proofs.Ytbhdehkdnenigaa

namespace Go.Proofs.Ytbhdehkdnenigaa.lawDeltaForward
open Go.ChangeShapes Go.WideShapes Go.ChangeAt Go.RowKit
set_option linter.unusedVariables false
set_option linter.unusedSimpArgs false
theorem contract (H : Type) (enc : TypeId × Value → H) (W : World) (base : Nat) (args : Array Value) (ds gs : List (DataW H)) (before : List MemPlace)
    (hval : ∀ (j : Nat) t v, Try.f5.params[j]? = some t → args[j]? = some v → Value.okWide Try.prog W .any base t v)
    (hW : DataW.Whole enc Try.prog Try.f5.params.toList Rows.deltaForwardSpec.vars false W args.toList ds gs before)
    (hz : (DataW.weightsEach Try.prog (Try.f5.params.toList ++ ([] : List TypeId)) (ds ++ gs)).all (· ≤ reachBytes) = true) :
    Calls Try.prog 5 args W fun e W' => ∃ v, e = .returned v ∧ Rows.deltaForwardSpec.post enc Try.prog Try.f5 false true false false W args v W' := by
  have hW' := hW
  obtain ⟨p, q, hA0, hV, rfl, hfz, hnd⟩ := hW
  have hA : DataW.TrodAll enc Try.prog W 0 (fun _ => true) true Try.f5.params.toList args.toList ds p := hA0
  rw [Try.params5] at hA hval hz
  obtain ⟨v0, vs0, d0, ds0, p0, q0, hargs, rfl, rfl, h0, r0⟩ := trodAll_cons hA
  obtain ⟨v1, vs1, d1, ds1, p1, q1, rfl, rfl, rfl, h1, r1⟩ := trodAll_cons r0
  obtain ⟨v2, vs2, d2, ds2, p2, q2, rfl, rfl, rfl, h2, r2⟩ := trodAll_cons r1
  obtain ⟨rfl, rfl, rfl⟩ := trodAll_nil r2
  obtain rfl : args = #[v0, v1, v2] := by cases args; simp_all
  obtain ⟨rfl, rfl⟩ := trodVars_none hV
  obtain ⟨n0, A0, c0, l0, rfl, w0, hl0, hC0, R0, B0⟩ := open_bucket_arg (hval 0 24 v0 rfl rfl) h0 (light_of hz (j := 0) rfl rfl)
  obtain ⟨a1, rfl, rfl, rfl, w1⟩ := open_int Try.underlying2 (hval 1 2 v1 rfl rfl) h1
  obtain ⟨a2, rfl, rfl, rfl, w2⟩ := open_int Try.underlying2 (hval 2 2 v2 rfl rfl) h2
  clear hA0
  have hc : Calls Try.prog 5 #[.agg #[.int .i64 n0, .slice A0 l0.length c0], .int .i64 a1, .int .i64 a2] W fun e W' => e = .returned (.bool true) ∧ Below W.heap.size W W' := forward_all l0 n0 a1 a2 A0 c0 W hC0 hl0 R0
  exact hc.mono fun e W' ⟨he, hb⟩ => ⟨_, he, law_post rfl (by rw [Try.params5]; decide +kernel) (tb := 4) (by kernel_rfl) Try.underlying4 ⟨rfl, rfl, rfl⟩ hW' hb⟩
set_option maxRecDepth 100000 in
theorem lifted (os : Os) (started : os.Started) (H : Type) (enc : TypeId × Value → H) :
    ReturnsInHanded {} Try.checked os 5 .any (Rows.deltaForwardSpec.pre6 enc Try.prog Try.f5 Rows.deltaForwardRow.domain false) (Rows.deltaForwardSpec.post enc Try.prog Try.f5 false true false false) := by
  refine returnsInHanded_of_change_sized (C := Try.checked) own started (by kernel_rfl) Try.func5
    (ChangeSpec.witness6 (enc := enc) (C := Try.checked) false ⟨#[], #[.agg #[.int .i64 0, .slice none 0 0], .int .i64 0, .int .i64 0], []⟩ 8 (by kernel_rfl) (by kernel_rfl) (by kernel_rfl) (by kernel_rfl)) ?_
  intro W base args ds gs before hval hW hcnd hsz _
  exact contract H enc W base args ds gs before hval hW hsz
theorem proved : Rows.DeltaForwardSaid :=
  OpenClaim.holds_of_wide 5 Try.f5 rfl rfl rfl rfl rfl rfl rfl ⟨rfl, rfl, rfl, rfl, rfl⟩ rfl rfl rfl rfl rfl (by kernel_rfl) Try.func5 (by kernel_rfl)
    (of_decide_eq_true (by kernel_rfl)) (by unfold Func.isWrapper; first | (rw [if_pos (by decide +kernel)]; kernel_rfl) | (rw [if_neg (by decide +kernel)]; exact ⟨rfl, rfl⟩))
    (fun os started H enc _ => lifted os started H enc)
end Go.Proofs.Ytbhdehkdnenigaa.lawDeltaForward

/- The machine side of some functions, printed for this claim: each function has the answers of a plain one.
Plain law: commands told as the document's.
What a row says of a number: it is one of its kind.
What a law's contract gives its row: true is told, and what came in reads as it did.
What comes in: a list of the document's commands, opened to a row; what the narrowed form's bound says of their sizes. -/
import Derived.Test.YtdmlgligljagoaaDoorProg
import Derived.WalkKit
import Derived.ProofKit
import Derived.OpenShut
import Derived.ShutString
import Derived.Deep.DeepHandedRow
import Derived.Lib.LaidTab
import Derived.Test.YtdmlgligljagoaaDoorRows
import Derived.Deep.Slices
import Derived.Deep.Fields
import Derived.ChangeSame
import Derived.SizedLaws
import Derived.Test.YtdmlgligljagoaaDoorQP4
namespace Go.Proofs.YtdmlgligljagoaaDoor.PS
open Go.RowKit Go.Proofs.YtdmlgligljagoaaDoorW.PrintWords Go.Proofs.YtdmlgligljagoaaDoorW.PrintLast Go.Proofs.YtdmlgligljagoaaDoorW.PrintMore
attribute [local go_sem] max2_int min2_int max_two min_two zbg zbh max_four min_four   -- for this text's walks alone
set_option linter.unusedVariables false
set_option linter.unusedSimpArgs false

/-! ### cofferlaw22_told: function 15 -/
def cofferlaw22_told.l0 : Nat → List (S36) → List (S57) → Int → Option ((List (S57)))
 | 0, _, _, _ => none
 | k + 1, x0, x3, x4 => if x4 < (x0.length : Int) then (if 0 ≤ x4 then (if ([] : List (S38)).length + ((zag x0 x4).f3.f4).length < 4398046511104 then (if ([] : List Int).length + ((zag x0 x4).f3.f7).length < 17592186044416 then (if x3.length < 879609302220 then (cofferlaw22_told.l0 k x0 (x3 ++ [(⟨(zag x0 x4).f0, (zag x0 x4).f1, (zag x0 x4).f2, (⟨(zag x0 x4).f3.f0, (zag x0 x4).f3.f1, (zag x0 x4).f3.f2, (zag x0 x4).f3.f3, (([] : List (S38)) ++ ((zag x0 x4).f3.f4)), (zag x0 x4).f3.f5, (zag x0 x4).f3.f6, (([] : List Int) ++ ((zag x0 x4).f3.f7))⟩ : S55), (zag x0 x4).f4⟩ : S57)]) (wrap64 (x4 + 1))) else (none)) else (none)) else (none)) else (none)) else (some x3)
def cofferlaw22_told.f (k : Nat) (l0 : List (S36)) : Option ((List (S57))) := cofferlaw22_told.l0 k l0 ([] : List (S57)) 0
theorem cofferlaw22_told.mono_l : ∀ k, (∀ y0 y1 y2, LeO (cofferlaw22_told.l0 k y0 y1 y2) (cofferlaw22_told.l0 (k + 1) y0 y1 y2))
 | 0 => fun _ _ _ r h => by simp [cofferlaw22_told.l0] at h
 | k + 1 => by
  have ih0 := cofferlaw22_told.mono_l k
  ·
   intro y0 y1 y2
   unfold cofferlaw22_told.l0
   repeat' first
   | (with_reducible exact ih0 _ _ _)
   | (with_reducible exact LeO.refl _)
   | (with_reducible exact LeO.none _)
   | (with_reducible refine LeO.ite ?_ ?_)
   | (with_reducible refine LeO.bind ?_ (fun _ => ?_))
   | exact ih0 _ _ _
   | exact LeO.none _
   | refine LeO.ite ?_ ?_
   | refine LeO.bind ?_ (fun _ => ?_)
theorem cofferlaw22_told.mono : ∀ a0 k, LeO (cofferlaw22_told.f k a0) (cofferlaw22_told.f (k + 1) a0) := by
 intro a0 k
 have ih0 := cofferlaw22_told.mono_l k
 unfold cofferlaw22_told.f
 repeat' first
   | (with_reducible exact ih0 _ _ _)
   | (with_reducible exact LeO.refl _)
   | (with_reducible exact LeO.none _)
   | (with_reducible refine LeO.ite ?_ ?_)
   | (with_reducible refine LeO.bind ?_ (fun _ => ?_))
   | exact ih0 _ _ _
   | exact LeO.none _
   | refine LeO.ite ?_ ?_
   | refine LeO.bind ?_ (fun _ => ?_)
def cofferlaw22_told.T6 : Bool × List (List Nat × List Nat) := (true, [([], []), ([0], [0]), ([], []), ([2], [2]), ([], []), ([4], [4]), ([], []), ([6], [6]), ([], []), ([8], [8]), ([9], [9]), ([], []), ([11], [11]), ([], []), ([13], [13]), ([], []), ([15], [15]), ([16, 10], [16]), ([1, 3, 5, 7, 10, 12, 14, 17], [1, 3, 5, 7, 10, 12, 14, 17]), ([], []), ([19, 18, 17, 0, 1, 2, 3, 4, 5, 6, 7, 8, 9, 10, 11, 12, 13, 14, 15, 16, 17, 18, 19], [18, 19])])
def cofferlaw22_told.B6 : List Nat := [0, 1, 0, 4, 0, 16, 0, 64, 0, 256, 768, 0, 2048, 0, 8192, 0, 32768, 100096, 262143, 0, 1048575]
theorem cofferlaw22_told.tab6 : rtab .any (opsOf Tryd.f15 6) = cofferlaw22_told.T6 := by kernel_rfl
theorem cofferlaw22_told.bits6 : waitsOk cofferlaw22_told.T6.2 cofferlaw22_told.B6 = true := by kernel_rfl
def cofferlaw22_told.T7 : Bool × List (List Nat × List Nat) := (true, [([], []), ([], []), ([], []), ([1, 2], [1, 2]), ([3], [3]), ([4], [4]), ([], []), ([], []), ([6, 7], [6, 7]), ([8], [8]), ([9], [9]), ([], []), ([], []), ([11, 12], [11, 12]), ([13], [13]), ([14], [14]), ([], []), ([], []), ([], []), ([17, 18], [17, 18]), ([19], [19]), ([20], [20]), ([5, 10, 15, 16, 21], [5, 10, 15, 16, 21]), ([22], [22]), ([0, 23], [0, 23]), ([24, 24, 0, 1, 2, 3, 4, 5, 6, 7, 8, 9, 10, 11, 12, 13, 14, 15, 16, 17, 18, 19, 20, 21, 22, 23, 24], [0, 24])])
def cofferlaw22_told.B7 : List Nat := [0, 0, 0, 6, 14, 30, 0, 0, 192, 448, 960, 0, 0, 6144, 14336, 30720, 0, 0, 0, 393216, 917504, 1966080, 4194302, 8388606, 16777215, 33554431]
theorem cofferlaw22_told.tab7 : rtab .any (opsOf Tryd.f15 7) = cofferlaw22_told.T7 := by kernel_rfl
theorem cofferlaw22_told.bits7 : waitsOk cofferlaw22_told.T7.2 cofferlaw22_told.B7 = true := by kernel_rfl
set_option maxHeartbeats 8000000 in
set_option maxRecDepth 100000 in
theorem cofferlaw22_told.calls (k : Nat) (A0 : Option Addr) (c0 : Nat) (l0 : List (S36)) (r : List (S57)) (w : World) (hr0 : Kd.C k36 w A0 l0.length l0) (hc0 : l0.length ≤ c0) (h : cofferlaw22_told.f k l0 = some r) :
  Calls Tryd.prog 15 #[.slice A0 l0.length c0] w fun e w' => ∃ v0_ : Value, e = .returned (v0_) ∧ Kd.S k57 57 w' w.heap.size (fun _ => True) v0_ r ∧ Below w.heap.size w w' := by
 have hu34 := Tryd.underlying34
 have hu55 := Tryd.underlying55
 have hu57 := Tryd.underlying57
 have HR0 := Aside0.mk hr0
 have HC0 := Aside0.mk hc0
 clear hr0 hc0
 have HB := Aside0.mk (Below.refl w.heap.size w)
 have H : (cofferlaw22_told.l0 k l0 ([] : List (S57)) 0) = some r := h
 clear h
 have H' := Aside0.mk H
 clear H
 go_enter Tryd.func15, Tryd.ntmps15
 go_wp2
 go_loopg [3, 4] k (fun kq v3 v4 w' => ∃ (x3_1 : List (S57)) (x4_1 : Int), v4 = .int .i64 x4_1 ∧ Aside0 (cofferlaw22_told.l0 kq l0 x3_1 x4_1 = some r) ∧ Aside0 (kq ≤ k) ∧ Aside0 (Kd.S k57 57 w' w.heap.size (fun _ => True) v3 x3_1) ∧ Aside0 (Below w.heap.size w w'))
 case atStart => exact ⟨(([] : List (S57))), (0), (by first | rfl | (simp; done) | (simp [*]; done)), H', ⟨Nat.le_refl _⟩, ⟨by first | exact Kd.S_nil _ _ _ _ _ | exact Kd.N_nil _ _ _ _ _ | exact Kd.V_nil _ _ _ _ _ | exact Kd.Q_nil _ _ _ _ _ | exact Kd.R_nil _ _ _ _ _⟩, ⟨by repeat with_reducible first | exact HB.out | apply zae | apply zac | apply zad⟩⟩
 case round =>
  clear H'
  try clear c1
  obtain ⟨x3_1, x4_1, rfl, HA, HK1, HO_3, HB⟩ := hrel
  cases gk with
  | zero => exact absurd HA.out (by simp [cofferlaw22_told.l0])
  | succ k1 =>
   have H := HA.out
   clear HA
   simp only [cofferlaw22_told.l0] at H
   by_cases c2 : x4_1 < (l0.length : Int)
   rotate_left
   ·
    rw [if_neg c2] at H
    have c2b0 : decide (x4_1 < (l0.length : Int)) = false := decide_eq_false c2
    clear c2
    obtain rfl := Option.some.inj H
    go_wp2
    go_ret
    exact ⟨_, by first | rfl | (simp [zao, zap] <;> rfl) | (simp [*, zao, zap] <;> rfl), by (with_reducible repeat (first | apply Kd.S_alloc | apply Kd.S_drewN | apply Kd.S_drew)); exact HO_3.out, by repeat with_reducible first | exact HB.out | apply zae | apply zac | apply zad⟩
   rw [if_pos c2] at H
   have c2b0 : decide (x4_1 < (l0.length : Int)) = true := decide_eq_true c2
   clear c2
   by_cases c3 : 0 ≤ x4_1
   rotate_left
   ·
    rw [if_neg c3] at H
    exact absurd H (by simp)
   rw [if_pos c3] at H
   have c3b0 : decide (0 ≤ x4_1) = true := decide_eq_true c3
   clear c3
   by_cases c4 : ([] : List (S38)).length + ((zag l0 x4_1).f3.f4).length < 4398046511104
   rotate_left
   ·
    rw [if_neg c4] at H
    exact absurd H (by simp)
   rw [if_pos c4] at H
   have LMc4 := Aside0.mk c4
   clear c4
   obtain ⟨y169, hy169⟩ : ∃ y_ : List (S38), y_ = (([] : List (S38)) ++ ((zag l0 x4_1).f3.f4)) := ⟨_, rfl⟩
   replace H : (if ([] : List Int).length + ((zag l0 x4_1).f3.f7).length < 17592186044416 then (if x3_1.length < 879609302220 then (cofferlaw22_told.l0 k1 l0 (x3_1 ++ [(⟨(zag l0 x4_1).f0, (zag l0 x4_1).f1, (zag l0 x4_1).f2, (⟨(zag l0 x4_1).f3.f0, (zag l0 x4_1).f3.f1, (zag l0 x4_1).f3.f2, (zag l0 x4_1).f3.f3, y169, (zag l0 x4_1).f3.f5, (zag l0 x4_1).f3.f6, (([] : List Int) ++ ((zag l0 x4_1).f3.f7))⟩ : S55), (zag l0 x4_1).f4⟩ : S57)]) (wrap64 (x4_1 + 1))) else (none)) else (none)) = some r := by first | (rw [hy169]; with_reducible exact H) | (have H2_ := (Option.bind_some _ _).symm.trans H; rw [hy169]; with_reducible exact H2_) | (have H2_ := (Option.bind_some _ _).symm.trans H; with_reducible exact H2_) | with_reducible exact H | (rw [hy169]; exact H) | exact H
   have Ny169 := Aside0.mk hy169
   clear hy169
   by_cases c5 : ([] : List Int).length + ((zag l0 x4_1).f3.f7).length < 17592186044416
   rotate_left
   ·
    rw [if_neg c5] at H
    exact absurd H (by simp)
   rw [if_pos c5] at H
   have LMc5 := Aside0.mk c5
   clear c5
   obtain ⟨y172, hy172⟩ : ∃ y_ : List Int, y_ = (([] : List Int) ++ ((zag l0 x4_1).f3.f7)) := ⟨_, rfl⟩
   replace H : (if x3_1.length < 879609302220 then (cofferlaw22_told.l0 k1 l0 (x3_1 ++ [(⟨(zag l0 x4_1).f0, (zag l0 x4_1).f1, (zag l0 x4_1).f2, (⟨(zag l0 x4_1).f3.f0, (zag l0 x4_1).f3.f1, (zag l0 x4_1).f3.f2, (zag l0 x4_1).f3.f3, y169, (zag l0 x4_1).f3.f5, (zag l0 x4_1).f3.f6, y172⟩ : S55), (zag l0 x4_1).f4⟩ : S57)]) (wrap64 (x4_1 + 1))) else (none)) = some r := by first | (rw [hy172]; with_reducible exact H) | (have H2_ := (Option.bind_some _ _).symm.trans H; rw [hy172]; with_reducible exact H2_) | (have H2_ := (Option.bind_some _ _).symm.trans H; with_reducible exact H2_) | with_reducible exact H | (rw [hy172]; exact H) | exact H
   have Ny172 := Aside0.mk hy172
   clear hy172
   by_cases c6 : x3_1.length < 879609302220
   rotate_left
   ·
    rw [if_neg c6] at H
    exact absurd H (by simp)
   rw [if_pos c6] at H
   have LMc6 := Aside0.mk c6
   clear c6
   obtain ⟨y180, hy180⟩ : ∃ y_ : List (S57), y_ = (x3_1 ++ [(⟨(zag l0 x4_1).f0, (zag l0 x4_1).f1, (zag l0 x4_1).f2, (⟨(zag l0 x4_1).f3.f0, (zag l0 x4_1).f3.f1, (zag l0 x4_1).f3.f2, (zag l0 x4_1).f3.f3, y169, (zag l0 x4_1).f3.f5, (zag l0 x4_1).f3.f6, y172⟩ : S55), (zag l0 x4_1).f4⟩ : S57)]) := ⟨_, rfl⟩
   replace H : (cofferlaw22_told.l0 k1 l0 y180 (wrap64 (x4_1 + 1))) = some r := by first | (rw [hy180]; with_reducible exact H) | (have H2_ := (Option.bind_some _ _).symm.trans H; rw [hy180]; with_reducible exact H2_) | (have H2_ := (Option.bind_some _ _).symm.trans H; with_reducible exact H2_) | with_reducible exact H | (rw [hy180]; exact H) | exact H
   have Ny180 := Aside0.mk hy180
   clear hy180
   have H' := Aside0.mk H
   clear H
   have p167 : 0 ≤ (x4_1 : Int) := of_decide_eq_true (by first | (with_reducible assumption) | assumption)
   have q167 : x4_1 < (l0.length : Int) := of_decide_eq_true (by first | (with_reducible assumption) | assumption)
   obtain ⟨ad167, A167_7, c167_7, A167_10, c167_10, e167, hx167_0, hx167_1, hx167_2, hx167_3, hx167_4, hx167_5, hx167_6, hx167_7, hx167_8, hx167_9, hx167_10, hx167_11, hl167_7, hi167_7, hl167_10, hi167_10⟩ := at_T36 HR0.out x4_1 p167 q167
   cases e167
   replace hx167_0 := (HB.out.cell (World.block_lt_of_cell? w _ hx167_0)).trans hx167_0
   replace hx167_1 := (HB.out.cell (World.block_lt_of_cell? w _ hx167_1)).trans hx167_1
   replace hx167_2 := (HB.out.cell (World.block_lt_of_cell? w _ hx167_2)).trans hx167_2
   replace hx167_3 := (HB.out.cell (World.block_lt_of_cell? w _ hx167_3)).trans hx167_3
   replace hx167_4 := (HB.out.cell (World.block_lt_of_cell? w _ hx167_4)).trans hx167_4
   replace hx167_5 := (HB.out.cell (World.block_lt_of_cell? w _ hx167_5)).trans hx167_5
   replace hx167_6 := (HB.out.cell (World.block_lt_of_cell? w _ hx167_6)).trans hx167_6
   replace hx167_7 := (HB.out.cell (World.block_lt_of_cell? w _ hx167_7)).trans hx167_7
   replace hx167_8 := (HB.out.cell (World.block_lt_of_cell? w _ hx167_8)).trans hx167_8
   replace hx167_9 := (HB.out.cell (World.block_lt_of_cell? w _ hx167_9)).trans hx167_9
   replace hx167_10 := (HB.out.cell (World.block_lt_of_cell? w _ hx167_10)).trans hx167_10
   replace hx167_11 := (HB.out.cell (World.block_lt_of_cell? w _ hx167_11)).trans hx167_11
   have HR167_7 := Aside0.mk hi167_7
   have HC167_7 := Aside0.mk hl167_7
   clear hi167_7 hl167_7
   have HR167_10 := Aside0.mk hi167_10
   have HC167_10 := Aside0.mk hl167_10
   clear hi167_10 hl167_10
   replace p167 := eq_true p167
   replace q167 := eq_true q167
   try go_wp2_with (first | ((with_reducible refine zbi (N := 5) rfl ?_); refine zbf ?hg (N := 5) ?hd (cs := #[.int .i64 0, .string (⟨#[]⟩ : ByteArray), .string (⟨#[]⟩ : ByteArray), .string (⟨#[]⟩ : ByteArray), .slice none 0 0, .int .i64 0, .int .i64 0, .slice none 0 0]) (t := 34) ?hr ?_; (case hd => rfl); (case hg => rfl); (case hr => first | (go_simp; done) | (go_simp; rfl)); intro gb168 hg w7 hbox hb; have n0_ := Aside0.mk (Kd.S_below (by (with_reducible repeat (first | apply Kd.S_alloc | apply Kd.S_drewN | apply Kd.S_drew)); exact HO_3.out) hb); have n1_ := Aside0.mk (zar (by repeat with_reducible first | exact HB.out | apply zae | apply zac | apply zad) hb); have n2_ := Aside0.mk (hbox); have n3_ := Aside0.mk ((by rw [hg]; exact (zam (by repeat with_reducible first | exact HB.out | apply zae | apply zac | apply zad)) : w.heap.size ≤ gb168)); have n4_ := Aside0.mk ((by rw [hg]; exact (zam (by repeat with_reducible first | exact HB.out | apply zae | apply zac | apply zad)) : w.heap.size ≤ gb168)); clear HO_3; clear HB; have HO_3 := n0_; have HB := n1_; have BK168 := n2_; have GW168 := n3_; have GE168 := n4_; clear n0_ n1_ n2_ n3_ n4_; clear hb hbox hg; have hcz8_0 : w7.cell? ⟨gb168, 0, none⟩ = some (.int .i64 0) := (zaa BK168.out 0).trans rfl; have hcz8_1 : w7.cell? ⟨gb168, 1, none⟩ = some (.string (⟨#[]⟩ : ByteArray)) := (zaa BK168.out 1).trans rfl; have hcz8_2 : w7.cell? ⟨gb168, 2, none⟩ = some (.string (⟨#[]⟩ : ByteArray)) := (zaa BK168.out 2).trans rfl; have hcz8_3 : w7.cell? ⟨gb168, 3, none⟩ = some (.string (⟨#[]⟩ : ByteArray)) := (zaa BK168.out 3).trans rfl; have hcz8_4 : w7.cell? ⟨gb168, 4, none⟩ = some (.slice none 0 0) := (zaa BK168.out 4).trans rfl; have hcz8_5 : w7.cell? ⟨gb168, 5, none⟩ = some (.int .i64 0) := (zaa BK168.out 5).trans rfl; have hcz8_6 : w7.cell? ⟨gb168, 6, none⟩ = some (.int .i64 0) := (zaa BK168.out 6).trans rfl; have hcz8_7 : w7.cell? ⟨gb168, 7, none⟩ = some (.slice none 0 0) := (zaa BK168.out 7).trans rfl; have hfz8_0 := zab BK168.out 0; have hfz8_1 := zab BK168.out 1; have hfz8_2 := zab BK168.out 2; have hfz8_3 := zab BK168.out 3; have hfz8_4 := zab BK168.out 4; have hfz8_5 := zab BK168.out 5; have hfz8_6 := zab BK168.out 6; have hfz8_7 := zab BK168.out 7))
   have n0_ : Aside0 (Kd.S k57 57 ((((((((w7.setCell ⟨gb168, 0, none⟩ (.int .i64 ((zag l0 x4_1).f3.f0))).setCell ⟨gb168, 1, none⟩ (.string ((zag l0 x4_1).f3.f1))).setCell ⟨gb168, 2, none⟩ (.string ((zag l0 x4_1).f3.f2))).setCell ⟨gb168, 3, none⟩ (.string ((zag l0 x4_1).f3.f3))).setCell ⟨gb168, 4, none⟩ (.slice A167_7 ((zag l0 x4_1).f3.f4).length c167_7)).setCell ⟨gb168, 5, none⟩ (.int .i64 ((zag l0 x4_1).f3.f5))).setCell ⟨gb168, 6, none⟩ (.int .i64 ((zag l0 x4_1).f3.f6))).setCell ⟨gb168, 7, none⟩ (.slice A167_10 ((zag l0 x4_1).f3.f7).length c167_10)) w.heap.size (fun _ => True) u3 x3_1) := ⟨by (with_reducible repeat (first | apply Kd.S_alloc | apply Kd.S_drewN | apply Kd.S_drew)); exact Kd.S_mono (Kd.S_far (p := ⟨gb168, 7, none⟩) (Kd.S_far (p := ⟨gb168, 6, none⟩) (Kd.S_far (p := ⟨gb168, 5, none⟩) (Kd.S_far (p := ⟨gb168, 4, none⟩) (Kd.S_far (p := ⟨gb168, 3, none⟩) (Kd.S_far (p := ⟨gb168, 2, none⟩) (Kd.S_far (p := ⟨gb168, 1, none⟩) (Kd.S_far (p := ⟨gb168, 0, none⟩) (Kd.S_types HO_3.out BK168.out (by decide)) (fun _ hk => hk.2) (.int .i64 ((zag l0 x4_1).f3.f0))) (fun _ hk => hk.2) (.string ((zag l0 x4_1).f3.f1))) (fun _ hk => hk.2) (.string ((zag l0 x4_1).f3.f2))) (fun _ hk => hk.2) (.string ((zag l0 x4_1).f3.f3))) (fun _ hk => hk.2) (.slice A167_7 ((zag l0 x4_1).f3.f4).length c167_7)) (fun _ hk => hk.2) (.int .i64 ((zag l0 x4_1).f3.f5))) (fun _ hk => hk.2) (.int .i64 ((zag l0 x4_1).f3.f6))) (fun _ hk => hk.2) (.slice A167_10 ((zag l0 x4_1).f3.f7).length c167_10)) (fun _ hk => trivial)⟩
   have n1_ : Aside0 (((((((((w7.setCell ⟨gb168, 0, none⟩ (.int .i64 ((zag l0 x4_1).f3.f0))).setCell ⟨gb168, 1, none⟩ (.string ((zag l0 x4_1).f3.f1))).setCell ⟨gb168, 2, none⟩ (.string ((zag l0 x4_1).f3.f2))).setCell ⟨gb168, 3, none⟩ (.string ((zag l0 x4_1).f3.f3))).setCell ⟨gb168, 4, none⟩ (.slice A167_7 ((zag l0 x4_1).f3.f4).length c167_7)).setCell ⟨gb168, 5, none⟩ (.int .i64 ((zag l0 x4_1).f3.f5))).setCell ⟨gb168, 6, none⟩ (.int .i64 ((zag l0 x4_1).f3.f6))).setCell ⟨gb168, 7, none⟩ (.slice A167_10 ((zag l0 x4_1).f3.f7).length c167_10)).heap[gb168]? = some (.cells #[.int .i64 ((zag l0 x4_1).f3.f0), .string ((zag l0 x4_1).f3.f1), .string ((zag l0 x4_1).f3.f2), .string ((zag l0 x4_1).f3.f3), .slice A167_7 ((zag l0 x4_1).f3.f4).length c167_7, .int .i64 ((zag l0 x4_1).f3.f5), .int .i64 ((zag l0 x4_1).f3.f6), .slice A167_10 ((zag l0 x4_1).f3.f7).length c167_10] 34 (0, 0))) := ⟨by (with_reducible repeat (first | refine zai ?_ _ | refine zaj ?_ | refine zah ?_ _)); refine zaq (cs := #[.int .i64 ((zag l0 x4_1).f3.f0), .string ((zag l0 x4_1).f3.f1), .string ((zag l0 x4_1).f3.f2), .string ((zag l0 x4_1).f3.f3), .slice A167_7 ((zag l0 x4_1).f3.f4).length c167_7, .int .i64 ((zag l0 x4_1).f3.f5), .int .i64 ((zag l0 x4_1).f3.f6), .slice none 0 0]) ?_ 7 _ rfl; (with_reducible repeat (first | refine zai ?_ _ | refine zaj ?_ | refine zah ?_ _)); refine zaq (cs := #[.int .i64 ((zag l0 x4_1).f3.f0), .string ((zag l0 x4_1).f3.f1), .string ((zag l0 x4_1).f3.f2), .string ((zag l0 x4_1).f3.f3), .slice A167_7 ((zag l0 x4_1).f3.f4).length c167_7, .int .i64 ((zag l0 x4_1).f3.f5), .int .i64 0, .slice none 0 0]) ?_ 6 _ rfl; (with_reducible repeat (first | refine zai ?_ _ | refine zaj ?_ | refine zah ?_ _)); refine zaq (cs := #[.int .i64 ((zag l0 x4_1).f3.f0), .string ((zag l0 x4_1).f3.f1), .string ((zag l0 x4_1).f3.f2), .string ((zag l0 x4_1).f3.f3), .slice A167_7 ((zag l0 x4_1).f3.f4).length c167_7, .int .i64 0, .int .i64 0, .slice none 0 0]) ?_ 5 _ rfl; (with_reducible repeat (first | refine zai ?_ _ | refine zaj ?_ | refine zah ?_ _)); refine zaq (cs := #[.int .i64 ((zag l0 x4_1).f3.f0), .string ((zag l0 x4_1).f3.f1), .string ((zag l0 x4_1).f3.f2), .string ((zag l0 x4_1).f3.f3), .slice none 0 0, .int .i64 0, .int .i64 0, .slice none 0 0]) ?_ 4 _ rfl; (with_reducible repeat (first | refine zai ?_ _ | refine zaj ?_ | refine zah ?_ _)); refine zaq (cs := #[.int .i64 ((zag l0 x4_1).f3.f0), .string ((zag l0 x4_1).f3.f1), .string ((zag l0 x4_1).f3.f2), .string (⟨#[]⟩ : ByteArray), .slice none 0 0, .int .i64 0, .int .i64 0, .slice none 0 0]) ?_ 3 _ rfl; (with_reducible repeat (first | refine zai ?_ _ | refine zaj ?_ | refine zah ?_ _)); refine zaq (cs := #[.int .i64 ((zag l0 x4_1).f3.f0), .string ((zag l0 x4_1).f3.f1), .string (⟨#[]⟩ : ByteArray), .string (⟨#[]⟩ : ByteArray), .slice none 0 0, .int .i64 0, .int .i64 0, .slice none 0 0]) ?_ 2 _ rfl; (with_reducible repeat (first | refine zai ?_ _ | refine zaj ?_ | refine zah ?_ _)); refine zaq (cs := #[.int .i64 ((zag l0 x4_1).f3.f0), .string (⟨#[]⟩ : ByteArray), .string (⟨#[]⟩ : ByteArray), .string (⟨#[]⟩ : ByteArray), .slice none 0 0, .int .i64 0, .int .i64 0, .slice none 0 0]) ?_ 1 _ rfl; (with_reducible repeat (first | refine zai ?_ _ | refine zaj ?_ | refine zah ?_ _)); refine zaq (cs := #[.int .i64 0, .string (⟨#[]⟩ : ByteArray), .string (⟨#[]⟩ : ByteArray), .string (⟨#[]⟩ : ByteArray), .slice none 0 0, .int .i64 0, .int .i64 0, .slice none 0 0]) ?_ 0 _ rfl; (with_reducible repeat (first | refine zai ?_ _ | refine zaj ?_ | refine zah ?_ _)); exact BK168.out⟩
   have n2_ : Aside0 (Below w.heap.size w ((((((((w7.setCell ⟨gb168, 0, none⟩ (.int .i64 ((zag l0 x4_1).f3.f0))).setCell ⟨gb168, 1, none⟩ (.string ((zag l0 x4_1).f3.f1))).setCell ⟨gb168, 2, none⟩ (.string ((zag l0 x4_1).f3.f2))).setCell ⟨gb168, 3, none⟩ (.string ((zag l0 x4_1).f3.f3))).setCell ⟨gb168, 4, none⟩ (.slice A167_7 ((zag l0 x4_1).f3.f4).length c167_7)).setCell ⟨gb168, 5, none⟩ (.int .i64 ((zag l0 x4_1).f3.f5))).setCell ⟨gb168, 6, none⟩ (.int .i64 ((zag l0 x4_1).f3.f6))).setCell ⟨gb168, 7, none⟩ (.slice A167_10 ((zag l0 x4_1).f3.f7).length c167_10))) := ⟨by repeat with_reducible first | exact HB.out | apply zae | apply zac | apply zad | refine zak ?_ GE168.out⟩
   (try clear HO_3)
   (try clear BK168)
   (try clear HB)
   generalize ((((((((w7.setCell ⟨gb168, 0, none⟩ (.int .i64 ((zag l0 x4_1).f3.f0))).setCell ⟨gb168, 1, none⟩ (.string ((zag l0 x4_1).f3.f1))).setCell ⟨gb168, 2, none⟩ (.string ((zag l0 x4_1).f3.f2))).setCell ⟨gb168, 3, none⟩ (.string ((zag l0 x4_1).f3.f3))).setCell ⟨gb168, 4, none⟩ (.slice A167_7 ((zag l0 x4_1).f3.f4).length c167_7)).setCell ⟨gb168, 5, none⟩ (.int .i64 ((zag l0 x4_1).f3.f5))).setCell ⟨gb168, 6, none⟩ (.int .i64 ((zag l0 x4_1).f3.f6))).setCell ⟨gb168, 7, none⟩ (.slice A167_10 ((zag l0 x4_1).f3.f7).length c167_10)) = w9 at n0_ n1_ n2_ ⊢
   have HO_3 := n0_
   have BK168 := n1_
   have HB := n2_
   clear n0_ n1_ n2_
   have n0_ := Aside0.mk (Kd.S_drew HO_3.out)
   have n1_ := Aside0.mk (zaj BK168.out)
   have n2_ := Aside0.mk (zad HB.out)
   clear HO_3
   clear BK168
   clear HB
   have HO_3 := n0_
   have BK168 := n1_
   have HB := n2_
   clear n0_ n1_ n2_
   refine start_ (n := 21) (S := fun w' => w'.cell? ⟨gb168, 0, none⟩ = some (.int .i64 ((zag l0 x4_1).f3.f0)) ∧ w'.cell? ⟨gb168, 1, none⟩ = some (.string ((zag l0 x4_1).f3.f1)) ∧ w'.cell? ⟨gb168, 2, none⟩ = some (.string ((zag l0 x4_1).f3.f2)) ∧ w'.cell? ⟨gb168, 3, none⟩ = some (.string ((zag l0 x4_1).f3.f3)) ∧ w'.cell? ⟨gb168, 4, none⟩ = some (.slice A167_7 ((zag l0 x4_1).f3.f4).length c167_7) ∧ w'.cell? ⟨gb168, 5, none⟩ = some (.int .i64 ((zag l0 x4_1).f3.f5)) ∧ w'.cell? ⟨gb168, 6, none⟩ = some (.int .i64 ((zag l0 x4_1).f3.f6)) ∧ w'.cell? ⟨gb168, 7, none⟩ = some (.slice A167_10 ((zag l0 x4_1).f3.f7).length c167_10)) (ds := []) #[false, false, false, false, false, false, false, false, false, false, false, false, false, false, false, false, false, false, false, false, false] (by kernel_rfl) rfl rfl ⟨(zaa BK168.out 0).trans rfl, (zaa BK168.out 1).trans rfl, (zaa BK168.out 2).trans rfl, (zaa BK168.out 3).trans rfl, (zaa BK168.out 4).trans rfl, (zaa BK168.out 5).trans rfl, (zaa BK168.out 6).trans rfl, (zaa BK168.out 7).trans rfl⟩ (fun hHeld => ?_); refine with_tabW cofferlaw22_told.tab6 cofferlaw22_told.bits6 (fun HT_ HW_ => ?_)
   generalize w9.drew = w10 at HO_3 BK168 HB hHeld ⊢
   refine pure_ (i := 0) (N := some 18) (v := ?_) (a' := ?_) (tm 21 1) rfl rfl (zan HT_.out (by kernel_rfl)) (fun _ _ _ h => h) (Or.inl ⟨by rfl, ?_⟩) ?_ ?_
   rotate_left
   ·
    intro w'
    go_simp
    with_reducible rfl
   rotate_left
   ·
    simp only [aw]
    rfl
   refine pure_ (i := 2) (N := some 20) (v := ?_) (a' := ?_) (tm 21 5) rfl rfl (zan HT_.out (by kernel_rfl)) (fun _ _ _ h => h) (Or.inl ⟨by rfl, ?_⟩) ?_ ?_
   rotate_left
   ·
    intro w'
    go_simp
    with_reducible rfl
   rotate_left
   ·
    simp only [aw]
    rfl
   refine pure_ (i := 4) (N := some 22) (v := ?_) (a' := ?_) (tm 21 21) rfl rfl (zan HT_.out (by kernel_rfl)) (fun _ _ _ h => h) (Or.inl ⟨by rfl, ?_⟩) ?_ ?_
   rotate_left
   ·
    intro w'
    go_simp
    with_reducible rfl
   rotate_left
   ·
    simp only [aw]
    rfl
   refine pure_ (i := 6) (N := some 24) (v := ?_) (a' := ?_) (tm 21 85) rfl rfl (zan HT_.out (by kernel_rfl)) (fun _ _ _ h => h) (Or.inl ⟨by rfl, ?_⟩) ?_ ?_
   rotate_left
   ·
    intro w'
    go_simp
    with_reducible rfl
   rotate_left
   ·
    simp only [aw]
    rfl
   refine pure_ (i := 8) (N := some 26) (v := ?_) (a' := ?_) (tm 21 341) rfl rfl (zan HT_.out (by kernel_rfl)) (fun _ _ _ h => h) (Or.inl ⟨by rfl, ?_⟩) ?_ ?_
   rotate_left
   ·
    intro w'
    go_simp
    with_reducible rfl
   rotate_left
   ·
    simp only [aw]
    rfl
   refine pure_ (i := 11) (N := some 29) (v := ?_) (a' := ?_) (tm 21 2389) rfl rfl (zan HT_.out (by kernel_rfl)) (fun _ _ _ h => h) (Or.inl ⟨by rfl, ?_⟩) ?_ ?_
   rotate_left
   ·
    intro w'
    go_simp
    with_reducible rfl
   rotate_left
   ·
    simp only [aw]
    rfl
   refine pure_ (i := 13) (N := some 31) (v := ?_) (a' := ?_) (tm 21 10581) rfl rfl (zan HT_.out (by kernel_rfl)) (fun _ _ _ h => h) (Or.inl ⟨by rfl, ?_⟩) ?_ ?_
   rotate_left
   ·
    intro w'
    go_simp
    with_reducible rfl
   rotate_left
   ·
    simp only [aw]
    rfl
   refine pure_ (i := 15) (N := some 33) (v := ?_) (a' := ?_) (tm 21 43349) rfl rfl (zan HT_.out (by kernel_rfl)) (fun _ _ _ h => h) (Or.inl ⟨by rfl, ?_⟩) ?_ ?_
   rotate_left
   ·
    intro w'
    go_simp
    with_reducible rfl
   rotate_left
   ·
    simp only [aw]
    rfl
   refine take_ (i := 1) (N := some 19) (v := ?_) (a' := ?_) #[true, true, true, false, true, false, true, false, true, false, false, true, false, true, false, true, false, false, false, false, false] rfl rfl (zaw HT_.out HW_.out (by kernel_rfl)) (fun _ _ _ h => h) (Or.inl ⟨by rfl, ?_⟩) hHeld ?_ ?_
   rotate_left
   ·
    rintro w' ⟨s0, s1, s2, s3, s4, s5, s6, s7⟩
    go_simp
    with_reducible rfl
   rotate_left
   ·
    simp only [aw]
    rfl
   refine take_ (i := 3) (N := some 21) (v := ?_) (a' := ?_) #[true, true, true, true, true, false, true, false, true, false, false, true, false, true, false, true, false, false, false, false, false] rfl rfl (zaw HT_.out HW_.out (by kernel_rfl)) (fun _ _ _ h => h) (Or.inl ⟨by rfl, ?_⟩) hHeld ?_ ?_
   rotate_left
   ·
    rintro w' ⟨s0, s1, s2, s3, s4, s5, s6, s7⟩
    go_simp
    with_reducible rfl
   rotate_left
   ·
    simp only [aw]
    rfl
   refine take_ (i := 5) (N := some 23) (v := ?_) (a' := ?_) #[true, true, true, true, true, true, true, false, true, false, false, true, false, true, false, true, false, false, false, false, false] rfl rfl (zaw HT_.out HW_.out (by kernel_rfl)) (fun _ _ _ h => h) (Or.inl ⟨by rfl, ?_⟩) hHeld ?_ ?_
   rotate_left
   ·
    rintro w' ⟨s0, s1, s2, s3, s4, s5, s6, s7⟩
    go_simp
    with_reducible rfl
   rotate_left
   ·
    simp only [aw]
    rfl
   refine take_ (i := 7) (N := some 25) (v := ?_) (a' := ?_) #[true, true, true, true, true, true, true, true, true, false, false, true, false, true, false, true, false, false, false, false, false] rfl rfl (zaw HT_.out HW_.out (by kernel_rfl)) (fun _ _ _ h => h) (Or.inl ⟨by rfl, ?_⟩) hHeld ?_ ?_
   rotate_left
   ·
    rintro w' ⟨s0, s1, s2, s3, s4, s5, s6, s7⟩
    go_simp
    with_reducible rfl
   rotate_left
   ·
    simp only [aw]
    rfl
   refine take_ (i := 9) (N := some 27) (v := ?_) (a' := ?_) #[true, true, true, true, true, true, true, true, true, true, false, true, false, true, false, true, false, false, false, false, false] rfl rfl (zaw HT_.out HW_.out (by kernel_rfl)) (fun _ _ _ h => h) (Or.inl ⟨by rfl, ?_⟩) hHeld ?_ ?_
   rotate_left
   ·
    rintro w' ⟨s0, s1, s2, s3, s4, s5, s6, s7⟩
    go_simp
    with_reducible rfl
   rotate_left
   ·
    simp only [aw]
    rfl
   refine take_ (i := 12) (N := some 30) (v := ?_) (a' := ?_) #[true, true, true, true, true, true, true, true, true, true, false, true, true, true, false, true, false, false, false, false, false] rfl rfl (zaw HT_.out HW_.out (by kernel_rfl)) (fun _ _ _ h => h) (Or.inl ⟨by rfl, ?_⟩) hHeld ?_ ?_
   rotate_left
   ·
    rintro w' ⟨s0, s1, s2, s3, s4, s5, s6, s7⟩
    go_simp
    with_reducible rfl
   rotate_left
   ·
    simp only [aw]
    rfl
   refine take_ (i := 14) (N := some 32) (v := ?_) (a' := ?_) #[true, true, true, true, true, true, true, true, true, true, false, true, true, true, true, true, false, false, false, false, false] rfl rfl (zaw HT_.out HW_.out (by kernel_rfl)) (fun _ _ _ h => h) (Or.inl ⟨by rfl, ?_⟩) hHeld ?_ ?_
   rotate_left
   ·
    rintro w' ⟨s0, s1, s2, s3, s4, s5, s6, s7⟩
    go_simp
    with_reducible rfl
   rotate_left
   ·
    simp only [aw]
    rfl
   refine take_ (i := 16) (N := some 34) (v := ?_) (a' := ?_) #[true, true, true, true, true, true, true, true, true, true, false, true, true, true, true, true, true, false, false, false, false] rfl rfl (zaw HT_.out HW_.out (by kernel_rfl)) (fun _ _ _ h => h) (Or.inl ⟨by rfl, ?_⟩) hHeld ?_ ?_
   rotate_left
   ·
    rintro w' ⟨s0, s1, s2, s3, s4, s5, s6, s7⟩
    go_simp
    with_reducible rfl
   rotate_left
   ·
    simp only [aw]
    rfl
   refine join_ (σ := Value × Value × Nat) 1 #[true, true, true, true, true, true, true, true, true, true, true, true, true, true, true, true, true, true, true, true, false] (fun s_ => [(28, s_.1), (35, s_.2.1), (6, .pointer (some ⟨s_.2.2, 0, none⟩)), (36, .agg #[.int .i64 ((zag l0 x4_1).f3.f0), .string ((zag l0 x4_1).f3.f1), .string ((zag l0 x4_1).f3.f2), .string ((zag l0 x4_1).f3.f3), s_.1, .int .i64 ((zag l0 x4_1).f3.f5), .int .i64 ((zag l0 x4_1).f3.f6), s_.2.1])]) (fun s_ w' => (w'.cell? ⟨gb168, 0, none⟩ = some (.int .i64 ((zag l0 x4_1).f3.f0)) ∧ w'.cell? ⟨gb168, 1, none⟩ = some (.string ((zag l0 x4_1).f3.f1)) ∧ w'.cell? ⟨gb168, 2, none⟩ = some (.string ((zag l0 x4_1).f3.f2)) ∧ w'.cell? ⟨gb168, 3, none⟩ = some (.string ((zag l0 x4_1).f3.f3)) ∧ w'.cell? ⟨gb168, 4, none⟩ = some (.slice A167_7 ((zag l0 x4_1).f3.f4).length c167_7) ∧ w'.cell? ⟨gb168, 5, none⟩ = some (.int .i64 ((zag l0 x4_1).f3.f5)) ∧ w'.cell? ⟨gb168, 6, none⟩ = some (.int .i64 ((zag l0 x4_1).f3.f6)) ∧ w'.cell? ⟨gb168, 7, none⟩ = some (.slice A167_10 ((zag l0 x4_1).f3.f7).length c167_10)) ∧ (Kd.R k38 38 w' w.heap.size (fun _ => True) s_.1 y169) ∧ (Kd.R (Kd.int .i64) 3 w' w.heap.size (fun _ => True) s_.2.1 y172) ∧ (Kd.S k57 57 w' w.heap.size (fun k_ => some k_ ≠ (s_.1 : Value).ownBlock ∧ some k_ ≠ (s_.2.1 : Value).ownBlock) u3 x3_1) ∧ (w'.heap[gb168]? = some (.cells #[.int .i64 ((zag l0 x4_1).f3.f0), .string ((zag l0 x4_1).f3.f1), .string ((zag l0 x4_1).f3.f2), .string ((zag l0 x4_1).f3.f3), .slice A167_7 ((zag l0 x4_1).f3.f4).length c167_7, .int .i64 ((zag l0 x4_1).f3.f5), .int .i64 ((zag l0 x4_1).f3.f6), .slice A167_10 ((zag l0 x4_1).f3.f7).length c167_10] 34 (0, 0))) ∧ (w'.heap[s_.2.2]? = some (.cells #[.int .i64 0, .string (⟨#[]⟩ : ByteArray), .string (⟨#[]⟩ : ByteArray), .string (⟨#[]⟩ : ByteArray), .slice none 0 0, .int .i64 0, .int .i64 0, .slice none 0 0] 55 (0, 0))) ∧ (w.heap.size ≤ s_.2.2) ∧ (w.heap.size ≤ s_.2.2) ∧ (gb168 ≠ s_.2.2) ∧ (s_.2.2 ≠ gb168) ∧ (Below w.heap.size w w')) ?_ ?_
   rotate_left
   ·
    intro hCont
    refine two_ (i := 10) (j := 19) (Ni := some 28) (Nj := some 6) (tm 21 131071) (tm 21 654335) rfl rfl rfl rfl (two_of HT_.out (by kernel_rfl)) (by decide) (by decide) (fun K hK => ?_) (fun K hK => ?_)
    rotate_left
    ·
     skip
     refine box_step ?hg (N := 6) ?hd (cs := #[.int .i64 0, .string (⟨#[]⟩ : ByteArray), .string (⟨#[]⟩ : ByteArray), .string (⟨#[]⟩ : ByteArray), .slice none 0 0, .int .i64 0, .int .i64 0, .slice none 0 0]) (t := 55) ?hr ?_; (case hd => rfl); (case hg => rfl); (case hr => first | (go_simp; done) | (go_simp; rfl))
     intro gb175 hg w11 hbox hb
     have n0_ := Aside0.mk (Kd.S_below (by (with_reducible repeat (first | apply Kd.S_alloc | apply Kd.S_drewN | apply Kd.S_drew)); exact HO_3.out) hb)
     have n1_ := Aside0.mk (zbb (g := gb168) (o := .cells #[.int .i64 ((zag l0 x4_1).f3.f0), .string ((zag l0 x4_1).f3.f1), .string ((zag l0 x4_1).f3.f2), .string ((zag l0 x4_1).f3.f3), .slice A167_7 ((zag l0 x4_1).f3.f4).length c167_7, .int .i64 ((zag l0 x4_1).f3.f5), .int .i64 ((zag l0 x4_1).f3.f6), .slice A167_10 ((zag l0 x4_1).f3.f7).length c167_10] 34 (0, 0)) (by (with_reducible repeat (first | refine zai ?_ _ | refine zaj ?_ | refine zah ?_ _)); exact BK168.out) hb)
     have n2_ := Aside0.mk (zar (by repeat with_reducible first | exact HB.out | apply zae | apply zac | apply zad | refine zak ?_ GE168.out) hb)
     have n3_ := Aside0.mk (hbox)
     have n4_ := Aside0.mk ((by rw [hg]; exact (zam (by repeat with_reducible first | exact HB.out | apply zae | apply zac | apply zad | refine zak ?_ GE168.out)) : w.heap.size ≤ gb175))
     have n5_ := Aside0.mk ((by rw [hg]; exact (zam (by repeat with_reducible first | exact HB.out | apply zae | apply zac | apply zad | refine zak ?_ GE168.out)) : w.heap.size ≤ gb175))
     have n6_ := Aside0.mk ((by rw [hg]; exact Nat.ne_of_lt (zay (g := gb168) (o := .cells #[.int .i64 ((zag l0 x4_1).f3.f0), .string ((zag l0 x4_1).f3.f1), .string ((zag l0 x4_1).f3.f2), .string ((zag l0 x4_1).f3.f3), .slice A167_7 ((zag l0 x4_1).f3.f4).length c167_7, .int .i64 ((zag l0 x4_1).f3.f5), .int .i64 ((zag l0 x4_1).f3.f6), .slice A167_10 ((zag l0 x4_1).f3.f7).length c167_10] 34 (0, 0)) (by (with_reducible repeat (first | refine zai ?_ _ | refine zaj ?_ | refine zah ?_ _)); exact BK168.out)) : gb168 ≠ gb175))
     have n7_ := Aside0.mk ((by rw [hg]; exact Nat.ne_of_gt (zay (g := gb168) (o := .cells #[.int .i64 ((zag l0 x4_1).f3.f0), .string ((zag l0 x4_1).f3.f1), .string ((zag l0 x4_1).f3.f2), .string ((zag l0 x4_1).f3.f3), .slice A167_7 ((zag l0 x4_1).f3.f4).length c167_7, .int .i64 ((zag l0 x4_1).f3.f5), .int .i64 ((zag l0 x4_1).f3.f6), .slice A167_10 ((zag l0 x4_1).f3.f7).length c167_10] 34 (0, 0)) (by (with_reducible repeat (first | refine zai ?_ _ | refine zaj ?_ | refine zah ?_ _)); exact BK168.out)) : gb175 ≠ gb168))
     clear HO_3
     clear BK168
     clear HB
     have HO_3 := n0_
     have BK168 := n1_
     have HB := n2_
     have BK175 := n3_
     have GW175 := n4_
     have GE175 := n5_
     have NB168_175 := n6_
     have NB175_168 := n7_
     clear n0_ n1_ n2_ n3_ n4_ n5_ n6_ n7_
     clear hb hbox hg
     refine hK.out _ _ ⟨(zaa BK168.out 0).trans rfl, (zaa BK168.out 1).trans rfl, (zaa BK168.out 2).trans rfl, (zaa BK168.out 3).trans rfl, (zaa BK168.out 4).trans rfl, (zaa BK168.out 5).trans rfl, (zaa BK168.out 6).trans rfl, (zaa BK168.out 7).trans rfl⟩ (fun hHeld => ?_)
     clear hK K
     refine norm_ (a' := ?_) ?_ ?_
     rotate_left
     ·
      show Act.put _ (some 6) _ = _
      simp only [aw]
      rfl
     refine one_ (i := 10) (N := some 28) (tm 21 655359) rfl rfl (one_of HT_.out (by kernel_rfl)) (by decide) (fun K hK => ?_)
     refine Kd.R_append_rows_step k38 (w0 := w) w.heap.size (by rfl) (.const (.slice none 0 0)) (.tmp 27) 31 38 (.agg #[(.string ⟨#[]⟩), (.string ⟨#[]⟩)]) 32 rfl Tryd.underlying31 info38 rfl (by decide) (by omega) (.slice none 0 0) ([] : List (S38)) ((zag l0 x4_1).f3.f4) _ _ _ (fun _ => True) (fun _ => False) rfl rfl ?aO ?aR (fun _ _ h => h) (fun _ h => h.elim) ?aF ?aB ?aS ?aL ?_
     (case aR => repeat (first | exact (Kd.C_below HR167_7.out HB.out) | (with_reducible refine Kd.C_alloc ?_ _) | (with_reducible refine Kd.C_drewN ?_ _) | (with_reducible refine Kd.C_drew ?_)))
     (case aB => exact (by repeat with_reducible first | exact HB.out | apply zae | apply zac | apply zad | refine zak ?_ GE168.out | refine zak ?_ GE175.out))
     (case aF => exact (fun _ _ => trivial))
     (case aO => exact ((Kd.R_nil _ _ _ _ (fun _ => True))))
     (case aS => exact (zam (by repeat with_reducible first | exact HB.out | apply zae | apply zac | apply zad | refine zak ?_ GE168.out | refine zak ?_ GE175.out)))
     (case aL => have := LMc4.out; omega)
     intro v170 w12 ho hb hg hat
     rw [← Ny169.out] at ho
     have n0_ := Aside0.mk (Kd.S_after (Kd.S_apart_nil (by (with_reducible repeat (first | apply Kd.S_alloc | apply Kd.S_drewN | apply Kd.S_drew)); exact HO_3.out)) hg hat)
     have n1_ := Aside0.mk (zbe (g := gb168) (o := .cells #[.int .i64 ((zag l0 x4_1).f3.f0), .string ((zag l0 x4_1).f3.f1), .string ((zag l0 x4_1).f3.f2), .string ((zag l0 x4_1).f3.f3), .slice A167_7 ((zag l0 x4_1).f3.f4).length c167_7, .int .i64 ((zag l0 x4_1).f3.f5), .int .i64 ((zag l0 x4_1).f3.f6), .slice A167_10 ((zag l0 x4_1).f3.f7).length c167_10] 34 (0, 0)) (by (with_reducible repeat (first | refine zai ?_ _ | refine zaj ?_ | refine zah ?_ _)); exact BK168.out) hg (by simp [Value.ownBlock]))
     have n2_ := Aside0.mk (zbe (g := gb175) (o := .cells #[.int .i64 0, .string (⟨#[]⟩ : ByteArray), .string (⟨#[]⟩ : ByteArray), .string (⟨#[]⟩ : ByteArray), .slice none 0 0, .int .i64 0, .int .i64 0, .slice none 0 0] 55 (0, 0)) (by (with_reducible repeat (first | refine zai ?_ _ | refine zaj ?_ | refine zah ?_ _)); exact BK175.out) hg (by simp [Value.ownBlock]))
     have n3_ := Aside0.mk (hb)
     have n4_ := Aside0.mk (ho)
     clear HO_3
     clear BK168
     clear BK175
     clear HB
     have HO_3 := n0_
     have BK168 := n1_
     have BK175 := n2_
     have HB := n3_
     have HO171 := n4_
     clear n0_ n1_ n2_ n3_ n4_
     clear ho hb hg hat
     refine hK.out _ _ ⟨(zaa BK168.out 0).trans rfl, (zaa BK168.out 1).trans rfl, (zaa BK168.out 2).trans rfl, (zaa BK168.out 3).trans rfl, (zaa BK168.out 4).trans rfl, (zaa BK168.out 5).trans rfl, (zaa BK168.out 6).trans rfl, (zaa BK168.out 7).trans rfl⟩ (fun hHeld => ?_)
     clear hK K
     refine norm_ (a' := ?_) ?_ ?_
     rotate_left
     ·
      show Act.put _ (some 28) _ = _
      simp only [aw]
      rfl
     refine one_ (i := 17) (N := some 35) (tm 21 786431) rfl rfl (one_of HT_.out (by kernel_rfl)) (by decide) (fun K hK => ?_)
     refine Kd.R_append_rows_step (Kd.int .i64) (w0 := w) w.heap.size (by rfl) (.const (.slice none 0 0)) (.tmp 34) 32 3 (.int .i64 0) 8 rfl Tryd.underlying32 info3 rfl (by decide) (by omega) (.slice none 0 0) ([] : List Int) ((zag l0 x4_1).f3.f7) _ _ _ (fun _ => True) (fun _ => False) rfl rfl ?aO ?aR (fun _ _ h => h) (fun _ h => h.elim) ?aF ?aB ?aS ?aL ?_
     (case aR => repeat (first | exact (Kd.C_below HR167_10.out HB.out) | (with_reducible refine Kd.C_alloc ?_ _) | (with_reducible refine Kd.C_drewN ?_ _) | (with_reducible refine Kd.C_drew ?_)))
     (case aB => exact (by repeat with_reducible first | exact HB.out | apply zae | apply zac | apply zad | refine zak ?_ GE168.out | refine zak ?_ GE175.out))
     (case aF => exact (fun _ _ => trivial))
     (case aO => exact ((Kd.R_nil _ _ _ _ (fun _ => True))))
     (case aS => exact (zam (by repeat with_reducible first | exact HB.out | apply zae | apply zac | apply zad | refine zak ?_ GE168.out | refine zak ?_ GE175.out)))
     (case aL => have := LMc5.out; omega)
     intro v173 w13 ho hb hg hat
     rw [← Ny172.out] at ho
     have n0_ := Aside0.mk (Kd.S_after (Kd.S_apart_nil (by (with_reducible repeat (first | apply Kd.S_alloc | apply Kd.S_drewN | apply Kd.S_drew)); exact HO_3.out)) hg hat)
     have n1_ := Aside0.mk (zbe (g := gb168) (o := .cells #[.int .i64 ((zag l0 x4_1).f3.f0), .string ((zag l0 x4_1).f3.f1), .string ((zag l0 x4_1).f3.f2), .string ((zag l0 x4_1).f3.f3), .slice A167_7 ((zag l0 x4_1).f3.f4).length c167_7, .int .i64 ((zag l0 x4_1).f3.f5), .int .i64 ((zag l0 x4_1).f3.f6), .slice A167_10 ((zag l0 x4_1).f3.f7).length c167_10] 34 (0, 0)) (by (with_reducible repeat (first | refine zai ?_ _ | refine zaj ?_ | refine zah ?_ _)); exact BK168.out) hg (by simp [Value.ownBlock]))
     have n2_ := Aside0.mk (zbe (g := gb175) (o := .cells #[.int .i64 0, .string (⟨#[]⟩ : ByteArray), .string (⟨#[]⟩ : ByteArray), .string (⟨#[]⟩ : ByteArray), .slice none 0 0, .int .i64 0, .int .i64 0, .slice none 0 0] 55 (0, 0)) (by (with_reducible repeat (first | refine zai ?_ _ | refine zaj ?_ | refine zah ?_ _)); exact BK175.out) hg (by simp [Value.ownBlock]))
     have n3_ := Aside0.mk (Kd.R_grown (by (with_reducible repeat (first | apply Kd.R_alloc | apply Kd.R_drewN | apply Kd.R_drew)); exact HO171.out) hg (fun _ _ => by simp [Value.ownBlock]))
     have n4_ := Aside0.mk (hb)
     have n5_ := Aside0.mk (ho)
     clear HO_3
     clear BK168
     clear BK175
     clear HO171
     clear HB
     have HO_3 := n0_
     have BK168 := n1_
     have BK175 := n2_
     have HO171 := n3_
     have HB := n4_
     have HO174 := n5_
     clear n0_ n1_ n2_ n3_ n4_ n5_
     clear ho hb hg hat
     obtain ⟨Ao14, co14, eo14⟩ := Kd.R_slice HO174.out
     (first | subst eo14 | (injection eo14 with f1_ f2_ f3_; have f4_ := f1_.symm; have f5_ := f3_.symm; clear f1_ f2_ f3_; subst f4_; subst f5_))
     obtain ⟨Ao15, co15, eo15⟩ := Kd.R_slice HO171.out
     (first | subst eo15 | (injection eo15 with f1_ f2_ f3_; have f4_ := f1_.symm; have f5_ := f3_.symm; clear f1_ f2_ f3_; subst f4_; subst f5_))
     refine hK.out _ _ ⟨(zaa BK168.out 0).trans rfl, (zaa BK168.out 1).trans rfl, (zaa BK168.out 2).trans rfl, (zaa BK168.out 3).trans rfl, (zaa BK168.out 4).trans rfl, (zaa BK168.out 5).trans rfl, (zaa BK168.out 6).trans rfl, (zaa BK168.out 7).trans rfl⟩ (fun hHeld => ?_)
     clear hK K
     refine norm_ (a' := ?_) ?_ ?_
     rotate_left
     ·
      show Act.put _ (some 35) _ = _
      simp only [aw]
      rfl
     refine pure_ (i := 18) (N := some 36) (v := ?_) (a' := ?_) (tm 21 1048575) rfl rfl (zan HT_.out (by kernel_rfl)) (fun _ _ _ h => h) (Or.inl ⟨by rfl, ?_⟩) ?_ ?_
     rotate_left
     ·
      intro w'
      go_simp
      with_reducible rfl
     rotate_left
     ·
      simp only [aw]
      rfl
     exact norm_ (by simp only [putAll, Act.put, List.setIfInBounds_toArray, List.set_cons_zero, List.set_cons_succ]) (hCont (.slice Ao15 y169.length co15, .slice Ao14 y172.length co14, gb175) _ ⟨hHeld, (by (with_reducible repeat (first | apply Kd.R_alloc | apply Kd.R_drewN | apply Kd.R_drew)); exact HO171.out), (by (with_reducible repeat (first | apply Kd.R_alloc | apply Kd.R_drewN | apply Kd.R_drew)); exact HO174.out), (by (with_reducible repeat (first | apply Kd.S_alloc | apply Kd.S_drewN | apply Kd.S_drew)); exact Kd.S_mono HO_3.out (fun _ hk => ⟨hk.1.2, hk.2⟩)), (by (with_reducible repeat (first | refine zai ?_ _ | refine zaj ?_ | refine zah ?_ _)); exact BK168.out), (by (with_reducible repeat (first | refine zai ?_ _ | refine zaj ?_ | refine zah ?_ _)); exact BK175.out), GW175.out, GE175.out, NB168_175.out, NB175_168.out, (by repeat with_reducible first | exact HB.out | apply zae | apply zac | apply zad | refine zak ?_ GE168.out | refine zak ?_ GE175.out)⟩)
    skip
    refine Kd.R_append_rows_step k38 (w0 := w) w.heap.size (by rfl) (.const (.slice none 0 0)) (.tmp 27) 31 38 (.agg #[(.string ⟨#[]⟩), (.string ⟨#[]⟩)]) 32 rfl Tryd.underlying31 info38 rfl (by decide) (by omega) (.slice none 0 0) ([] : List (S38)) ((zag l0 x4_1).f3.f4) _ _ _ (fun _ => True) (fun _ => False) rfl rfl ?aO ?aR (fun _ _ h => h) (fun _ h => h.elim) ?aF ?aB ?aS ?aL ?_
    (case aR => repeat (first | exact (Kd.C_below HR167_7.out HB.out) | (with_reducible refine Kd.C_alloc ?_ _) | (with_reducible refine Kd.C_drewN ?_ _) | (with_reducible refine Kd.C_drew ?_)))
    (case aB => exact (by repeat with_reducible first | exact HB.out | apply zae | apply zac | apply zad | refine zak ?_ GE168.out))
    (case aF => exact (fun _ _ => trivial))
    (case aO => exact ((Kd.R_nil _ _ _ _ (fun _ => True))))
    (case aS => exact (zam (by repeat with_reducible first | exact HB.out | apply zae | apply zac | apply zad | refine zak ?_ GE168.out)))
    (case aL => have := LMc4.out; omega)
    intro v170 w11 ho hb hg hat
    rw [← Ny169.out] at ho
    have n0_ := Aside0.mk (Kd.S_after (Kd.S_apart_nil (by (with_reducible repeat (first | apply Kd.S_alloc | apply Kd.S_drewN | apply Kd.S_drew)); exact HO_3.out)) hg hat)
    have n1_ := Aside0.mk (zbe (g := gb168) (o := .cells #[.int .i64 ((zag l0 x4_1).f3.f0), .string ((zag l0 x4_1).f3.f1), .string ((zag l0 x4_1).f3.f2), .string ((zag l0 x4_1).f3.f3), .slice A167_7 ((zag l0 x4_1).f3.f4).length c167_7, .int .i64 ((zag l0 x4_1).f3.f5), .int .i64 ((zag l0 x4_1).f3.f6), .slice A167_10 ((zag l0 x4_1).f3.f7).length c167_10] 34 (0, 0)) (by (with_reducible repeat (first | refine zai ?_ _ | refine zaj ?_ | refine zah ?_ _)); exact BK168.out) hg (by simp [Value.ownBlock]))
    have n2_ := Aside0.mk (hb)
    have n3_ := Aside0.mk (ho)
    clear HO_3
    clear BK168
    clear HB
    have HO_3 := n0_
    have BK168 := n1_
    have HB := n2_
    have HO171 := n3_
    clear n0_ n1_ n2_ n3_
    clear ho hb hg hat
    refine hK.out _ _ ⟨(zaa BK168.out 0).trans rfl, (zaa BK168.out 1).trans rfl, (zaa BK168.out 2).trans rfl, (zaa BK168.out 3).trans rfl, (zaa BK168.out 4).trans rfl, (zaa BK168.out 5).trans rfl, (zaa BK168.out 6).trans rfl, (zaa BK168.out 7).trans rfl⟩ (fun hHeld => ?_)
    clear hK K
    refine norm_ (a' := ?_) ?_ ?_
    rotate_left
    ·
     show Act.put _ (some 28) _ = _
     simp only [aw]
     rfl
    refine two_ (i := 17) (j := 19) (Ni := some 35) (Nj := some 6) (tm 21 262143) (tm 21 655359) rfl rfl rfl rfl (two_of HT_.out (by kernel_rfl)) (by decide) (by decide) (fun K hK => ?_) (fun K hK => ?_)
    ·
     skip
     refine Kd.R_append_rows_step (Kd.int .i64) (w0 := w) w.heap.size (by rfl) (.const (.slice none 0 0)) (.tmp 34) 32 3 (.int .i64 0) 8 rfl Tryd.underlying32 info3 rfl (by decide) (by omega) (.slice none 0 0) ([] : List Int) ((zag l0 x4_1).f3.f7) _ _ _ (fun _ => True) (fun _ => False) rfl rfl ?aO ?aR (fun _ _ h => h) (fun _ h => h.elim) ?aF ?aB ?aS ?aL ?_
     (case aR => repeat (first | exact (Kd.C_below HR167_10.out HB.out) | (with_reducible refine Kd.C_alloc ?_ _) | (with_reducible refine Kd.C_drewN ?_ _) | (with_reducible refine Kd.C_drew ?_)))
     (case aB => exact (by repeat with_reducible first | exact HB.out | apply zae | apply zac | apply zad | refine zak ?_ GE168.out))
     (case aF => exact (fun _ _ => trivial))
     (case aO => exact ((Kd.R_nil _ _ _ _ (fun _ => True))))
     (case aS => exact (zam (by repeat with_reducible first | exact HB.out | apply zae | apply zac | apply zad | refine zak ?_ GE168.out)))
     (case aL => have := LMc5.out; omega)
     intro v173 w12 ho hb hg hat
     rw [← Ny172.out] at ho
     have n0_ := Aside0.mk (Kd.S_after (Kd.S_apart_nil (by (with_reducible repeat (first | apply Kd.S_alloc | apply Kd.S_drewN | apply Kd.S_drew)); exact HO_3.out)) hg hat)
     have n1_ := Aside0.mk (zbe (g := gb168) (o := .cells #[.int .i64 ((zag l0 x4_1).f3.f0), .string ((zag l0 x4_1).f3.f1), .string ((zag l0 x4_1).f3.f2), .string ((zag l0 x4_1).f3.f3), .slice A167_7 ((zag l0 x4_1).f3.f4).length c167_7, .int .i64 ((zag l0 x4_1).f3.f5), .int .i64 ((zag l0 x4_1).f3.f6), .slice A167_10 ((zag l0 x4_1).f3.f7).length c167_10] 34 (0, 0)) (by (with_reducible repeat (first | refine zai ?_ _ | refine zaj ?_ | refine zah ?_ _)); exact BK168.out) hg (by simp [Value.ownBlock]))
     have n2_ := Aside0.mk (Kd.R_grown (by (with_reducible repeat (first | apply Kd.R_alloc | apply Kd.R_drewN | apply Kd.R_drew)); exact HO171.out) hg (fun _ _ => by simp [Value.ownBlock]))
     have n3_ := Aside0.mk (hb)
     have n4_ := Aside0.mk (ho)
     clear HO_3
     clear BK168
     clear HO171
     clear HB
     have HO_3 := n0_
     have BK168 := n1_
     have HO171 := n2_
     have HB := n3_
     have HO174 := n4_
     clear n0_ n1_ n2_ n3_ n4_
     clear ho hb hg hat
     obtain ⟨Ao13, co13, eo13⟩ := Kd.R_slice HO174.out
     (first | subst eo13 | (injection eo13 with f1_ f2_ f3_; have f4_ := f1_.symm; have f5_ := f3_.symm; clear f1_ f2_ f3_; subst f4_; subst f5_))
     obtain ⟨Ao14, co14, eo14⟩ := Kd.R_slice HO171.out
     (first | subst eo14 | (injection eo14 with f1_ f2_ f3_; have f4_ := f1_.symm; have f5_ := f3_.symm; clear f1_ f2_ f3_; subst f4_; subst f5_))
     refine hK.out _ _ ⟨(zaa BK168.out 0).trans rfl, (zaa BK168.out 1).trans rfl, (zaa BK168.out 2).trans rfl, (zaa BK168.out 3).trans rfl, (zaa BK168.out 4).trans rfl, (zaa BK168.out 5).trans rfl, (zaa BK168.out 6).trans rfl, (zaa BK168.out 7).trans rfl⟩ (fun hHeld => ?_)
     clear hK K
     refine norm_ (a' := ?_) ?_ ?_
     rotate_left
     ·
      show Act.put _ (some 35) _ = _
      simp only [aw]
      rfl
     refine pure_ (i := 18) (N := some 36) (v := ?_) (a' := ?_) (tm 21 524287) rfl rfl (zan HT_.out (by kernel_rfl)) (fun _ _ _ h => h) (Or.inl ⟨by rfl, ?_⟩) ?_ ?_
     rotate_left
     ·
      intro w'
      go_simp
      with_reducible rfl
     rotate_left
     ·
      simp only [aw]
      rfl
     refine one_ (i := 19) (N := some 6) (tm 21 1048575) rfl rfl (one_of HT_.out (by kernel_rfl)) (by decide) (fun K hK => ?_)
     refine box_step ?hg (N := 6) ?hd (cs := #[.int .i64 0, .string (⟨#[]⟩ : ByteArray), .string (⟨#[]⟩ : ByteArray), .string (⟨#[]⟩ : ByteArray), .slice none 0 0, .int .i64 0, .int .i64 0, .slice none 0 0]) (t := 55) ?hr ?_; (case hd => rfl); (case hg => rfl); (case hr => first | (go_simp; done) | (go_simp; rfl))
     intro gb175 hg w15 hbox hb
     have n0_ := Aside0.mk (Kd.S_below (by (with_reducible repeat (first | apply Kd.S_alloc | apply Kd.S_drewN | apply Kd.S_drew)); exact HO_3.out) hb)
     have n1_ := Aside0.mk (Kd.R_below (by (with_reducible repeat (first | apply Kd.R_alloc | apply Kd.R_drewN | apply Kd.R_drew)); exact HO171.out) hb)
     have n2_ := Aside0.mk (Kd.R_below (by (with_reducible repeat (first | apply Kd.R_alloc | apply Kd.R_drewN | apply Kd.R_drew)); exact HO174.out) hb)
     have n3_ := Aside0.mk (zbb (g := gb168) (o := .cells #[.int .i64 ((zag l0 x4_1).f3.f0), .string ((zag l0 x4_1).f3.f1), .string ((zag l0 x4_1).f3.f2), .string ((zag l0 x4_1).f3.f3), .slice A167_7 ((zag l0 x4_1).f3.f4).length c167_7, .int .i64 ((zag l0 x4_1).f3.f5), .int .i64 ((zag l0 x4_1).f3.f6), .slice A167_10 ((zag l0 x4_1).f3.f7).length c167_10] 34 (0, 0)) (by (with_reducible repeat (first | refine zai ?_ _ | refine zaj ?_ | refine zah ?_ _)); exact BK168.out) hb)
     have n4_ := Aside0.mk (zar (by repeat with_reducible first | exact HB.out | apply zae | apply zac | apply zad | refine zak ?_ GE168.out) hb)
     have n5_ := Aside0.mk (hbox)
     have n6_ := Aside0.mk ((by rw [hg]; exact (zam (by repeat with_reducible first | exact HB.out | apply zae | apply zac | apply zad | refine zak ?_ GE168.out)) : w.heap.size ≤ gb175))
     have n7_ := Aside0.mk ((by rw [hg]; exact (zam (by repeat with_reducible first | exact HB.out | apply zae | apply zac | apply zad | refine zak ?_ GE168.out)) : w.heap.size ≤ gb175))
     have n8_ := Aside0.mk ((by rw [hg]; exact Nat.ne_of_lt (zay (g := gb168) (o := .cells #[.int .i64 ((zag l0 x4_1).f3.f0), .string ((zag l0 x4_1).f3.f1), .string ((zag l0 x4_1).f3.f2), .string ((zag l0 x4_1).f3.f3), .slice A167_7 ((zag l0 x4_1).f3.f4).length c167_7, .int .i64 ((zag l0 x4_1).f3.f5), .int .i64 ((zag l0 x4_1).f3.f6), .slice A167_10 ((zag l0 x4_1).f3.f7).length c167_10] 34 (0, 0)) (by (with_reducible repeat (first | refine zai ?_ _ | refine zaj ?_ | refine zah ?_ _)); exact BK168.out)) : gb168 ≠ gb175))
     have n9_ := Aside0.mk ((by rw [hg]; exact Nat.ne_of_gt (zay (g := gb168) (o := .cells #[.int .i64 ((zag l0 x4_1).f3.f0), .string ((zag l0 x4_1).f3.f1), .string ((zag l0 x4_1).f3.f2), .string ((zag l0 x4_1).f3.f3), .slice A167_7 ((zag l0 x4_1).f3.f4).length c167_7, .int .i64 ((zag l0 x4_1).f3.f5), .int .i64 ((zag l0 x4_1).f3.f6), .slice A167_10 ((zag l0 x4_1).f3.f7).length c167_10] 34 (0, 0)) (by (with_reducible repeat (first | refine zai ?_ _ | refine zaj ?_ | refine zah ?_ _)); exact BK168.out)) : gb175 ≠ gb168))
     clear HO_3
     clear HO171
     clear HO174
     clear BK168
     clear HB
     have HO_3 := n0_
     have HO171 := n1_
     have HO174 := n2_
     have BK168 := n3_
     have HB := n4_
     have BK175 := n5_
     have GW175 := n6_
     have GE175 := n7_
     have NB168_175 := n8_
     have NB175_168 := n9_
     clear n0_ n1_ n2_ n3_ n4_ n5_ n6_ n7_ n8_ n9_
     clear hb hbox hg
     refine hK.out _ _ ⟨(zaa BK168.out 0).trans rfl, (zaa BK168.out 1).trans rfl, (zaa BK168.out 2).trans rfl, (zaa BK168.out 3).trans rfl, (zaa BK168.out 4).trans rfl, (zaa BK168.out 5).trans rfl, (zaa BK168.out 6).trans rfl, (zaa BK168.out 7).trans rfl⟩ (fun hHeld => ?_)
     clear hK K
     refine norm_ (a' := ?_) ?_ ?_
     rotate_left
     ·
      show Act.put _ (some 6) _ = _
      simp only [aw]
      rfl
     exact norm_ (by simp only [putAll, Act.put, List.setIfInBounds_toArray, List.set_cons_zero, List.set_cons_succ]) (hCont (.slice Ao14 y169.length co14, .slice Ao13 y172.length co13, gb175) _ ⟨hHeld, (by (with_reducible repeat (first | apply Kd.R_alloc | apply Kd.R_drewN | apply Kd.R_drew)); exact HO171.out), (by (with_reducible repeat (first | apply Kd.R_alloc | apply Kd.R_drewN | apply Kd.R_drew)); exact HO174.out), (by (with_reducible repeat (first | apply Kd.S_alloc | apply Kd.S_drewN | apply Kd.S_drew)); exact Kd.S_mono HO_3.out (fun _ hk => ⟨hk.1.2, hk.2⟩)), (by (with_reducible repeat (first | refine zai ?_ _ | refine zaj ?_ | refine zah ?_ _)); exact BK168.out), (by (with_reducible repeat (first | refine zai ?_ _ | refine zaj ?_ | refine zah ?_ _)); exact BK175.out), GW175.out, GE175.out, NB168_175.out, NB175_168.out, (by repeat with_reducible first | exact HB.out | apply zae | apply zac | apply zad | refine zak ?_ GE168.out | refine zak ?_ GE175.out)⟩)
    skip
    refine box_step ?hg (N := 6) ?hd (cs := #[.int .i64 0, .string (⟨#[]⟩ : ByteArray), .string (⟨#[]⟩ : ByteArray), .string (⟨#[]⟩ : ByteArray), .slice none 0 0, .int .i64 0, .int .i64 0, .slice none 0 0]) (t := 55) ?hr ?_; (case hd => rfl); (case hg => rfl); (case hr => first | (go_simp; done) | (go_simp; rfl))
    intro gb175 hg w12 hbox hb
    have n0_ := Aside0.mk (Kd.S_below (by (with_reducible repeat (first | apply Kd.S_alloc | apply Kd.S_drewN | apply Kd.S_drew)); exact HO_3.out) hb)
    have n1_ := Aside0.mk (Kd.R_below (by (with_reducible repeat (first | apply Kd.R_alloc | apply Kd.R_drewN | apply Kd.R_drew)); exact HO171.out) hb)
    have n2_ := Aside0.mk (zbb (g := gb168) (o := .cells #[.int .i64 ((zag l0 x4_1).f3.f0), .string ((zag l0 x4_1).f3.f1), .string ((zag l0 x4_1).f3.f2), .string ((zag l0 x4_1).f3.f3), .slice A167_7 ((zag l0 x4_1).f3.f4).length c167_7, .int .i64 ((zag l0 x4_1).f3.f5), .int .i64 ((zag l0 x4_1).f3.f6), .slice A167_10 ((zag l0 x4_1).f3.f7).length c167_10] 34 (0, 0)) (by (with_reducible repeat (first | refine zai ?_ _ | refine zaj ?_ | refine zah ?_ _)); exact BK168.out) hb)
    have n3_ := Aside0.mk (zar (by repeat with_reducible first | exact HB.out | apply zae | apply zac | apply zad | refine zak ?_ GE168.out) hb)
    have n4_ := Aside0.mk (hbox)
    have n5_ := Aside0.mk ((by rw [hg]; exact (zam (by repeat with_reducible first | exact HB.out | apply zae | apply zac | apply zad | refine zak ?_ GE168.out)) : w.heap.size ≤ gb175))
    have n6_ := Aside0.mk ((by rw [hg]; exact (zam (by repeat with_reducible first | exact HB.out | apply zae | apply zac | apply zad | refine zak ?_ GE168.out)) : w.heap.size ≤ gb175))
    have n7_ := Aside0.mk ((by rw [hg]; exact Nat.ne_of_lt (zay (g := gb168) (o := .cells #[.int .i64 ((zag l0 x4_1).f3.f0), .string ((zag l0 x4_1).f3.f1), .string ((zag l0 x4_1).f3.f2), .string ((zag l0 x4_1).f3.f3), .slice A167_7 ((zag l0 x4_1).f3.f4).length c167_7, .int .i64 ((zag l0 x4_1).f3.f5), .int .i64 ((zag l0 x4_1).f3.f6), .slice A167_10 ((zag l0 x4_1).f3.f7).length c167_10] 34 (0, 0)) (by (with_reducible repeat (first | refine zai ?_ _ | refine zaj ?_ | refine zah ?_ _)); exact BK168.out)) : gb168 ≠ gb175))
    have n8_ := Aside0.mk ((by rw [hg]; exact Nat.ne_of_gt (zay (g := gb168) (o := .cells #[.int .i64 ((zag l0 x4_1).f3.f0), .string ((zag l0 x4_1).f3.f1), .string ((zag l0 x4_1).f3.f2), .string ((zag l0 x4_1).f3.f3), .slice A167_7 ((zag l0 x4_1).f3.f4).length c167_7, .int .i64 ((zag l0 x4_1).f3.f5), .int .i64 ((zag l0 x4_1).f3.f6), .slice A167_10 ((zag l0 x4_1).f3.f7).length c167_10] 34 (0, 0)) (by (with_reducible repeat (first | refine zai ?_ _ | refine zaj ?_ | refine zah ?_ _)); exact BK168.out)) : gb175 ≠ gb168))
    clear HO_3
    clear HO171
    clear BK168
    clear HB
    have HO_3 := n0_
    have HO171 := n1_
    have BK168 := n2_
    have HB := n3_
    have BK175 := n4_
    have GW175 := n5_
    have GE175 := n6_
    have NB168_175 := n7_
    have NB175_168 := n8_
    clear n0_ n1_ n2_ n3_ n4_ n5_ n6_ n7_ n8_
    clear hb hbox hg
    refine hK.out _ _ ⟨(zaa BK168.out 0).trans rfl, (zaa BK168.out 1).trans rfl, (zaa BK168.out 2).trans rfl, (zaa BK168.out 3).trans rfl, (zaa BK168.out 4).trans rfl, (zaa BK168.out 5).trans rfl, (zaa BK168.out 6).trans rfl, (zaa BK168.out 7).trans rfl⟩ (fun hHeld => ?_)
    clear hK K
    refine norm_ (a' := ?_) ?_ ?_
    rotate_left
    ·
     show Act.put _ (some 6) _ = _
     simp only [aw]
     rfl
    refine one_ (i := 17) (N := some 35) (tm 21 786431) rfl rfl (one_of HT_.out (by kernel_rfl)) (by decide) (fun K hK => ?_)
    refine Kd.R_append_rows_step (Kd.int .i64) (w0 := w) w.heap.size (by rfl) (.const (.slice none 0 0)) (.tmp 34) 32 3 (.int .i64 0) 8 rfl Tryd.underlying32 info3 rfl (by decide) (by omega) (.slice none 0 0) ([] : List Int) ((zag l0 x4_1).f3.f7) _ _ _ (fun _ => True) (fun _ => False) rfl rfl ?aO ?aR (fun _ _ h => h) (fun _ h => h.elim) ?aF ?aB ?aS ?aL ?_
    (case aR => repeat (first | exact (Kd.C_below HR167_10.out HB.out) | (with_reducible refine Kd.C_alloc ?_ _) | (with_reducible refine Kd.C_drewN ?_ _) | (with_reducible refine Kd.C_drew ?_)))
    (case aB => exact (by repeat with_reducible first | exact HB.out | apply zae | apply zac | apply zad | refine zak ?_ GE168.out | refine zak ?_ GE175.out))
    (case aF => exact (fun _ _ => trivial))
    (case aO => exact ((Kd.R_nil _ _ _ _ (fun _ => True))))
    (case aS => exact (zam (by repeat with_reducible first | exact HB.out | apply zae | apply zac | apply zad | refine zak ?_ GE168.out | refine zak ?_ GE175.out)))
    (case aL => have := LMc5.out; omega)
    intro v173 w13 ho hb hg hat
    rw [← Ny172.out] at ho
    have n0_ := Aside0.mk (Kd.S_after (Kd.S_apart_nil (by (with_reducible repeat (first | apply Kd.S_alloc | apply Kd.S_drewN | apply Kd.S_drew)); exact HO_3.out)) hg hat)
    have n1_ := Aside0.mk (zbe (g := gb168) (o := .cells #[.int .i64 ((zag l0 x4_1).f3.f0), .string ((zag l0 x4_1).f3.f1), .string ((zag l0 x4_1).f3.f2), .string ((zag l0 x4_1).f3.f3), .slice A167_7 ((zag l0 x4_1).f3.f4).length c167_7, .int .i64 ((zag l0 x4_1).f3.f5), .int .i64 ((zag l0 x4_1).f3.f6), .slice A167_10 ((zag l0 x4_1).f3.f7).length c167_10] 34 (0, 0)) (by (with_reducible repeat (first | refine zai ?_ _ | refine zaj ?_ | refine zah ?_ _)); exact BK168.out) hg (by simp [Value.ownBlock]))
    have n2_ := Aside0.mk (Kd.R_grown (by (with_reducible repeat (first | apply Kd.R_alloc | apply Kd.R_drewN | apply Kd.R_drew)); exact HO171.out) hg (fun _ _ => by simp [Value.ownBlock]))
    have n3_ := Aside0.mk (zbe (g := gb175) (o := .cells #[.int .i64 0, .string (⟨#[]⟩ : ByteArray), .string (⟨#[]⟩ : ByteArray), .string (⟨#[]⟩ : ByteArray), .slice none 0 0, .int .i64 0, .int .i64 0, .slice none 0 0] 55 (0, 0)) (by (with_reducible repeat (first | refine zai ?_ _ | refine zaj ?_ | refine zah ?_ _)); exact BK175.out) hg (by simp [Value.ownBlock]))
    have n4_ := Aside0.mk (hb)
    have n5_ := Aside0.mk (ho)
    clear HO_3
    clear BK168
    clear HO171
    clear BK175
    clear HB
    have HO_3 := n0_
    have BK168 := n1_
    have HO171 := n2_
    have BK175 := n3_
    have HB := n4_
    have HO174 := n5_
    clear n0_ n1_ n2_ n3_ n4_ n5_
    clear ho hb hg hat
    obtain ⟨Ao14, co14, eo14⟩ := Kd.R_slice HO174.out
    (first | subst eo14 | (injection eo14 with f1_ f2_ f3_; have f4_ := f1_.symm; have f5_ := f3_.symm; clear f1_ f2_ f3_; subst f4_; subst f5_))
    obtain ⟨Ao15, co15, eo15⟩ := Kd.R_slice HO171.out
    (first | subst eo15 | (injection eo15 with f1_ f2_ f3_; have f4_ := f1_.symm; have f5_ := f3_.symm; clear f1_ f2_ f3_; subst f4_; subst f5_))
    refine hK.out _ _ ⟨(zaa BK168.out 0).trans rfl, (zaa BK168.out 1).trans rfl, (zaa BK168.out 2).trans rfl, (zaa BK168.out 3).trans rfl, (zaa BK168.out 4).trans rfl, (zaa BK168.out 5).trans rfl, (zaa BK168.out 6).trans rfl, (zaa BK168.out 7).trans rfl⟩ (fun hHeld => ?_)
    clear hK K
    refine norm_ (a' := ?_) ?_ ?_
    rotate_left
    ·
     show Act.put _ (some 35) _ = _
     simp only [aw]
     rfl
    refine pure_ (i := 18) (N := some 36) (v := ?_) (a' := ?_) (tm 21 1048575) rfl rfl (zan HT_.out (by kernel_rfl)) (fun _ _ _ h => h) (Or.inl ⟨by rfl, ?_⟩) ?_ ?_
    rotate_left
    ·
     intro w'
     go_simp
     with_reducible rfl
    rotate_left
    ·
     simp only [aw]
     rfl
    exact norm_ (by simp only [putAll, Act.put, List.setIfInBounds_toArray, List.set_cons_zero, List.set_cons_succ]) (hCont (.slice Ao15 y169.length co15, .slice Ao14 y172.length co14, gb175) _ ⟨hHeld, (by (with_reducible repeat (first | apply Kd.R_alloc | apply Kd.R_drewN | apply Kd.R_drew)); exact HO171.out), (by (with_reducible repeat (first | apply Kd.R_alloc | apply Kd.R_drewN | apply Kd.R_drew)); exact HO174.out), (by (with_reducible repeat (first | apply Kd.S_alloc | apply Kd.S_drewN | apply Kd.S_drew)); exact Kd.S_mono HO_3.out (fun _ hk => ⟨hk.1.2, hk.2⟩)), (by (with_reducible repeat (first | refine zai ?_ _ | refine zaj ?_ | refine zah ?_ _)); exact BK168.out), (by (with_reducible repeat (first | refine zai ?_ _ | refine zaj ?_ | refine zah ?_ _)); exact BK175.out), GW175.out, GE175.out, NB168_175.out, NB175_168.out, (by repeat with_reducible first | exact HB.out | apply zae | apply zac | apply zad | refine zak ?_ GE168.out | refine zak ?_ GE175.out)⟩)
   rintro ⟨v170, v173, gb175⟩ w16 ⟨hS_, h0_, h1_, h2_, h3_, h4_, h5_, h6_, h7_, h8_, h9_⟩
   have n0_ : Aside0 (Kd.R k38 38 w16 w.heap.size (fun _ => True) v170 y169) := ⟨h0_⟩
   have n1_ : Aside0 (Kd.R (Kd.int .i64) 3 w16 w.heap.size (fun _ => True) v173 y172) := ⟨h1_⟩
   have n2_ : Aside0 (Kd.S k57 57 w16 w.heap.size (fun k_ => some k_ ≠ (v170 : Value).ownBlock ∧ some k_ ≠ (v173 : Value).ownBlock) u3 x3_1) := ⟨h2_⟩
   have n3_ : Aside0 (w16.heap[gb168]? = some (.cells #[.int .i64 ((zag l0 x4_1).f3.f0), .string ((zag l0 x4_1).f3.f1), .string ((zag l0 x4_1).f3.f2), .string ((zag l0 x4_1).f3.f3), .slice A167_7 ((zag l0 x4_1).f3.f4).length c167_7, .int .i64 ((zag l0 x4_1).f3.f5), .int .i64 ((zag l0 x4_1).f3.f6), .slice A167_10 ((zag l0 x4_1).f3.f7).length c167_10] 34 (0, 0))) := ⟨h3_⟩
   have n4_ : Aside0 (w16.heap[gb175]? = some (.cells #[.int .i64 0, .string (⟨#[]⟩ : ByteArray), .string (⟨#[]⟩ : ByteArray), .string (⟨#[]⟩ : ByteArray), .slice none 0 0, .int .i64 0, .int .i64 0, .slice none 0 0] 55 (0, 0))) := ⟨h4_⟩
   have n5_ : Aside0 (w.heap.size ≤ gb175) := ⟨h5_⟩
   have n6_ : Aside0 (w.heap.size ≤ gb175) := ⟨h6_⟩
   have n7_ : Aside0 (gb168 ≠ gb175) := ⟨h7_⟩
   have n8_ : Aside0 (gb175 ≠ gb168) := ⟨h8_⟩
   have n9_ : Aside0 (Below w.heap.size w w16) := ⟨h9_⟩
   clear HO_3
   clear BK168
   clear HB
   clear h0_ h1_ h2_ h3_ h4_ h5_ h6_ h7_ h8_ h9_
   have HO171 := n0_
   have HO174 := n1_
   have HO_3 := n2_
   have BK168 := n3_
   have BK175 := n4_
   have GW175 := n5_
   have GE175 := n6_
   have NB168_175 := n7_
   have NB175_168 := n8_
   have HB := n9_
   clear n0_ n1_ n2_ n3_ n4_ n5_ n6_ n7_ n8_ n9_
   have hHeld : w16.cell? ⟨gb168, 0, none⟩ = some (.int .i64 ((zag l0 x4_1).f3.f0)) ∧ w16.cell? ⟨gb168, 1, none⟩ = some (.string ((zag l0 x4_1).f3.f1)) ∧ w16.cell? ⟨gb168, 2, none⟩ = some (.string ((zag l0 x4_1).f3.f2)) ∧ w16.cell? ⟨gb168, 3, none⟩ = some (.string ((zag l0 x4_1).f3.f3)) ∧ w16.cell? ⟨gb168, 4, none⟩ = some (.slice A167_7 ((zag l0 x4_1).f3.f4).length c167_7) ∧ w16.cell? ⟨gb168, 5, none⟩ = some (.int .i64 ((zag l0 x4_1).f3.f5)) ∧ w16.cell? ⟨gb168, 6, none⟩ = some (.int .i64 ((zag l0 x4_1).f3.f6)) ∧ w16.cell? ⟨gb168, 7, none⟩ = some (.slice A167_10 ((zag l0 x4_1).f3.f7).length c167_10) := hS_
   obtain ⟨Ao17, co17, eo17⟩ := Kd.R_slice HO174.out
   (first | subst eo17 | (injection eo17 with f1_ f2_ f3_; have f4_ := f1_.symm; have f5_ := f3_.symm; clear f1_ f2_ f3_; subst f4_; subst f5_))
   obtain ⟨Ao18, co18, eo18⟩ := Kd.R_slice HO171.out
   (first | subst eo18 | (injection eo18 with f1_ f2_ f3_; have f4_ := f1_.symm; have f5_ := f3_.symm; clear f1_ f2_ f3_; subst f4_; subst f5_))
   refine norm_ (a' := ?_) ?_ ?_
   rotate_left
   ·
    simp only [putAll, Act.put, List.setIfInBounds_toArray, List.set_cons_zero, List.set_cons_succ]
    rfl
   refine one_ (i := 20) (N := none) (tm 21 2097151) rfl rfl (one_of HT_.out (by kernel_rfl)) (by decide) (fun K hK => ?_)
   have hs19 : w16.cell? ⟨gb175, 0, none⟩ = some (.int .i64 0) := (zaa BK175.out 0).trans rfl
   have hfs19 := zab BK175.out 0
   have hns19_0 := NB168_175.out
   have hms19_0 := NB175_168.out
   have hs20 : w16.cell? ⟨gb175, 1, none⟩ = some (.string (⟨#[]⟩ : ByteArray)) := (zaa BK175.out 1).trans rfl
   have hfs20 := zab BK175.out 1
   have hns20_0 := NB168_175.out
   have hms20_0 := NB175_168.out
   have hs21 : w16.cell? ⟨gb175, 2, none⟩ = some (.string (⟨#[]⟩ : ByteArray)) := (zaa BK175.out 2).trans rfl
   have hfs21 := zab BK175.out 2
   have hns21_0 := NB168_175.out
   have hms21_0 := NB175_168.out
   have hs22 : w16.cell? ⟨gb175, 3, none⟩ = some (.string (⟨#[]⟩ : ByteArray)) := (zaa BK175.out 3).trans rfl
   have hfs22 := zab BK175.out 3
   have hns22_0 := NB168_175.out
   have hms22_0 := NB175_168.out
   have hs23 : w16.cell? ⟨gb175, 4, none⟩ = some (.slice none 0 0) := (zaa BK175.out 4).trans rfl
   have hfs23 := zab BK175.out 4
   have hns23_0 := NB168_175.out
   have hms23_0 := NB175_168.out
   have hs24 : w16.cell? ⟨gb175, 5, none⟩ = some (.int .i64 0) := (zaa BK175.out 5).trans rfl
   have hfs24 := zab BK175.out 5
   have hns24_0 := NB168_175.out
   have hms24_0 := NB175_168.out
   have hs25 : w16.cell? ⟨gb175, 6, none⟩ = some (.int .i64 0) := (zaa BK175.out 6).trans rfl
   have hfs25 := zab BK175.out 6
   have hns25_0 := NB168_175.out
   have hms25_0 := NB175_168.out
   have hs26 : w16.cell? ⟨gb175, 7, none⟩ = some (.slice none 0 0) := (zaa BK175.out 7).trans rfl
   have hfs26 := zab BK175.out 7
   have hns26_0 := NB168_175.out
   have hms26_0 := NB175_168.out
   refine skip_ (w1 := ?_) (by rfl) rfl ?_ ?_
   rotate_left
   ·
    go_simp
    rfl
   refine hK.out _ _ ⟨((zal (p := ⟨gb175, _, none⟩) NB168_175.out _).trans (((zal (p := ⟨gb175, _, none⟩) NB168_175.out _).trans (((zal (p := ⟨gb175, _, none⟩) NB168_175.out _).trans (((zal (p := ⟨gb175, _, none⟩) NB168_175.out _).trans (((zal (p := ⟨gb175, _, none⟩) NB168_175.out _).trans (((zal (p := ⟨gb175, _, none⟩) NB168_175.out _).trans (((zal (p := ⟨gb175, _, none⟩) NB168_175.out _).trans (((zal (p := ⟨gb175, _, none⟩) NB168_175.out _).trans (hHeld.1)))))))))))))))), ((zal (p := ⟨gb175, _, none⟩) NB168_175.out _).trans (((zal (p := ⟨gb175, _, none⟩) NB168_175.out _).trans (((zal (p := ⟨gb175, _, none⟩) NB168_175.out _).trans (((zal (p := ⟨gb175, _, none⟩) NB168_175.out _).trans (((zal (p := ⟨gb175, _, none⟩) NB168_175.out _).trans (((zal (p := ⟨gb175, _, none⟩) NB168_175.out _).trans (((zal (p := ⟨gb175, _, none⟩) NB168_175.out _).trans (((zal (p := ⟨gb175, _, none⟩) NB168_175.out _).trans (hHeld.2.1)))))))))))))))), ((zal (p := ⟨gb175, _, none⟩) NB168_175.out _).trans (((zal (p := ⟨gb175, _, none⟩) NB168_175.out _).trans (((zal (p := ⟨gb175, _, none⟩) NB168_175.out _).trans (((zal (p := ⟨gb175, _, none⟩) NB168_175.out _).trans (((zal (p := ⟨gb175, _, none⟩) NB168_175.out _).trans (((zal (p := ⟨gb175, _, none⟩) NB168_175.out _).trans (((zal (p := ⟨gb175, _, none⟩) NB168_175.out _).trans (((zal (p := ⟨gb175, _, none⟩) NB168_175.out _).trans (hHeld.2.2.1)))))))))))))))), ((zal (p := ⟨gb175, _, none⟩) NB168_175.out _).trans (((zal (p := ⟨gb175, _, none⟩) NB168_175.out _).trans (((zal (p := ⟨gb175, _, none⟩) NB168_175.out _).trans (((zal (p := ⟨gb175, _, none⟩) NB168_175.out _).trans (((zal (p := ⟨gb175, _, none⟩) NB168_175.out _).trans (((zal (p := ⟨gb175, _, none⟩) NB168_175.out _).trans (((zal (p := ⟨gb175, _, none⟩) NB168_175.out _).trans (((zal (p := ⟨gb175, _, none⟩) NB168_175.out _).trans (hHeld.2.2.2.1)))))))))))))))), ((zal (p := ⟨gb175, _, none⟩) NB168_175.out _).trans (((zal (p := ⟨gb175, _, none⟩) NB168_175.out _).trans (((zal (p := ⟨gb175, _, none⟩) NB168_175.out _).trans (((zal (p := ⟨gb175, _, none⟩) NB168_175.out _).trans (((zal (p := ⟨gb175, _, none⟩) NB168_175.out _).trans (((zal (p := ⟨gb175, _, none⟩) NB168_175.out _).trans (((zal (p := ⟨gb175, _, none⟩) NB168_175.out _).trans (((zal (p := ⟨gb175, _, none⟩) NB168_175.out _).trans (hHeld.2.2.2.2.1)))))))))))))))), ((zal (p := ⟨gb175, _, none⟩) NB168_175.out _).trans (((zal (p := ⟨gb175, _, none⟩) NB168_175.out _).trans (((zal (p := ⟨gb175, _, none⟩) NB168_175.out _).trans (((zal (p := ⟨gb175, _, none⟩) NB168_175.out _).trans (((zal (p := ⟨gb175, _, none⟩) NB168_175.out _).trans (((zal (p := ⟨gb175, _, none⟩) NB168_175.out _).trans (((zal (p := ⟨gb175, _, none⟩) NB168_175.out _).trans (((zal (p := ⟨gb175, _, none⟩) NB168_175.out _).trans (hHeld.2.2.2.2.2.1)))))))))))))))), ((zal (p := ⟨gb175, _, none⟩) NB168_175.out _).trans (((zal (p := ⟨gb175, _, none⟩) NB168_175.out _).trans (((zal (p := ⟨gb175, _, none⟩) NB168_175.out _).trans (((zal (p := ⟨gb175, _, none⟩) NB168_175.out _).trans (((zal (p := ⟨gb175, _, none⟩) NB168_175.out _).trans (((zal (p := ⟨gb175, _, none⟩) NB168_175.out _).trans (((zal (p := ⟨gb175, _, none⟩) NB168_175.out _).trans (((zal (p := ⟨gb175, _, none⟩) NB168_175.out _).trans (hHeld.2.2.2.2.2.2.1)))))))))))))))), ((zal (p := ⟨gb175, _, none⟩) NB168_175.out _).trans (((zal (p := ⟨gb175, _, none⟩) NB168_175.out _).trans (((zal (p := ⟨gb175, _, none⟩) NB168_175.out _).trans (((zal (p := ⟨gb175, _, none⟩) NB168_175.out _).trans (((zal (p := ⟨gb175, _, none⟩) NB168_175.out _).trans (((zal (p := ⟨gb175, _, none⟩) NB168_175.out _).trans (((zal (p := ⟨gb175, _, none⟩) NB168_175.out _).trans (((zal (p := ⟨gb175, _, none⟩) NB168_175.out _).trans (hHeld.2.2.2.2.2.2.2))))))))))))))))⟩ (fun hHeld => ?_)
   clear hK K
   refine done_ (done_of HT_.out (by kernel_rfl)) ?_
   try go_wp2
   have n0_ : Aside0 (Kd.S k57 57 ((((((((w16.setCell ⟨gb175, 0, none⟩ (.int .i64 ((zag l0 x4_1).f3.f0))).setCell ⟨gb175, 1, none⟩ (.string ((zag l0 x4_1).f3.f1))).setCell ⟨gb175, 2, none⟩ (.string ((zag l0 x4_1).f3.f2))).setCell ⟨gb175, 3, none⟩ (.string ((zag l0 x4_1).f3.f3))).setCell ⟨gb175, 4, none⟩ (.slice Ao18 y169.length co18)).setCell ⟨gb175, 5, none⟩ (.int .i64 ((zag l0 x4_1).f3.f5))).setCell ⟨gb175, 6, none⟩ (.int .i64 ((zag l0 x4_1).f3.f6))).setCell ⟨gb175, 7, none⟩ (.slice Ao17 y172.length co17)) w.heap.size (fun k_ => some k_ ≠ (.slice Ao18 y169.length co18 : Value).ownBlock ∧ some k_ ≠ (.slice Ao17 y172.length co17 : Value).ownBlock) u3 x3_1) := ⟨by (with_reducible repeat (first | apply Kd.S_alloc | apply Kd.S_drewN | apply Kd.S_drew)); exact Kd.S_mono (Kd.S_far (p := ⟨gb175, 7, none⟩) (Kd.S_far (p := ⟨gb175, 6, none⟩) (Kd.S_far (p := ⟨gb175, 5, none⟩) (Kd.S_far (p := ⟨gb175, 4, none⟩) (Kd.S_far (p := ⟨gb175, 3, none⟩) (Kd.S_far (p := ⟨gb175, 2, none⟩) (Kd.S_far (p := ⟨gb175, 1, none⟩) (Kd.S_far (p := ⟨gb175, 0, none⟩) (Kd.S_types HO_3.out BK175.out (by decide)) (fun _ hk => hk.2) (.int .i64 ((zag l0 x4_1).f3.f0))) (fun _ hk => hk.2) (.string ((zag l0 x4_1).f3.f1))) (fun _ hk => hk.2) (.string ((zag l0 x4_1).f3.f2))) (fun _ hk => hk.2) (.string ((zag l0 x4_1).f3.f3))) (fun _ hk => hk.2) (.slice Ao18 y169.length co18)) (fun _ hk => hk.2) (.int .i64 ((zag l0 x4_1).f3.f5))) (fun _ hk => hk.2) (.int .i64 ((zag l0 x4_1).f3.f6))) (fun _ hk => hk.2) (.slice Ao17 y172.length co17)) (fun _ hk => ⟨hk.1.1, hk.1.2⟩)⟩
   have n1_ : Aside0 (Kd.R k38 38 ((((((((w16.setCell ⟨gb175, 0, none⟩ (.int .i64 ((zag l0 x4_1).f3.f0))).setCell ⟨gb175, 1, none⟩ (.string ((zag l0 x4_1).f3.f1))).setCell ⟨gb175, 2, none⟩ (.string ((zag l0 x4_1).f3.f2))).setCell ⟨gb175, 3, none⟩ (.string ((zag l0 x4_1).f3.f3))).setCell ⟨gb175, 4, none⟩ (.slice Ao18 y169.length co18)).setCell ⟨gb175, 5, none⟩ (.int .i64 ((zag l0 x4_1).f3.f5))).setCell ⟨gb175, 6, none⟩ (.int .i64 ((zag l0 x4_1).f3.f6))).setCell ⟨gb175, 7, none⟩ (.slice Ao17 y172.length co17)) w.heap.size (fun _ => True) (.slice Ao18 y169.length co18) y169) := ⟨by (with_reducible repeat (first | apply Kd.R_alloc | apply Kd.R_drewN | apply Kd.R_drew)); exact Kd.R_mono (Kd.R_far (p := ⟨gb175, 7, none⟩) (Kd.R_far (p := ⟨gb175, 6, none⟩) (Kd.R_far (p := ⟨gb175, 5, none⟩) (Kd.R_far (p := ⟨gb175, 4, none⟩) (Kd.R_far (p := ⟨gb175, 3, none⟩) (Kd.R_far (p := ⟨gb175, 2, none⟩) (Kd.R_far (p := ⟨gb175, 1, none⟩) (Kd.R_far (p := ⟨gb175, 0, none⟩) (Kd.R_types HO171.out BK175.out (by decide)) (fun _ hk => hk.2) (.int .i64 ((zag l0 x4_1).f3.f0))) (fun _ hk => hk.2) (.string ((zag l0 x4_1).f3.f1))) (fun _ hk => hk.2) (.string ((zag l0 x4_1).f3.f2))) (fun _ hk => hk.2) (.string ((zag l0 x4_1).f3.f3))) (fun _ hk => hk.2) (.slice Ao18 y169.length co18)) (fun _ hk => hk.2) (.int .i64 ((zag l0 x4_1).f3.f5))) (fun _ hk => hk.2) (.int .i64 ((zag l0 x4_1).f3.f6))) (fun _ hk => hk.2) (.slice Ao17 y172.length co17)) (fun _ hk => trivial)⟩
   have n2_ : Aside0 (Kd.R (Kd.int .i64) 3 ((((((((w16.setCell ⟨gb175, 0, none⟩ (.int .i64 ((zag l0 x4_1).f3.f0))).setCell ⟨gb175, 1, none⟩ (.string ((zag l0 x4_1).f3.f1))).setCell ⟨gb175, 2, none⟩ (.string ((zag l0 x4_1).f3.f2))).setCell ⟨gb175, 3, none⟩ (.string ((zag l0 x4_1).f3.f3))).setCell ⟨gb175, 4, none⟩ (.slice Ao18 y169.length co18)).setCell ⟨gb175, 5, none⟩ (.int .i64 ((zag l0 x4_1).f3.f5))).setCell ⟨gb175, 6, none⟩ (.int .i64 ((zag l0 x4_1).f3.f6))).setCell ⟨gb175, 7, none⟩ (.slice Ao17 y172.length co17)) w.heap.size (fun _ => True) (.slice Ao17 y172.length co17) y172) := ⟨by (with_reducible repeat (first | apply Kd.R_alloc | apply Kd.R_drewN | apply Kd.R_drew)); exact Kd.R_mono (Kd.R_far (p := ⟨gb175, 7, none⟩) (Kd.R_far (p := ⟨gb175, 6, none⟩) (Kd.R_far (p := ⟨gb175, 5, none⟩) (Kd.R_far (p := ⟨gb175, 4, none⟩) (Kd.R_far (p := ⟨gb175, 3, none⟩) (Kd.R_far (p := ⟨gb175, 2, none⟩) (Kd.R_far (p := ⟨gb175, 1, none⟩) (Kd.R_far (p := ⟨gb175, 0, none⟩) (Kd.R_types HO174.out BK175.out (by decide)) (fun _ hk => hk.2) (.int .i64 ((zag l0 x4_1).f3.f0))) (fun _ hk => hk.2) (.string ((zag l0 x4_1).f3.f1))) (fun _ hk => hk.2) (.string ((zag l0 x4_1).f3.f2))) (fun _ hk => hk.2) (.string ((zag l0 x4_1).f3.f3))) (fun _ hk => hk.2) (.slice Ao18 y169.length co18)) (fun _ hk => hk.2) (.int .i64 ((zag l0 x4_1).f3.f5))) (fun _ hk => hk.2) (.int .i64 ((zag l0 x4_1).f3.f6))) (fun _ hk => hk.2) (.slice Ao17 y172.length co17)) (fun _ hk => trivial)⟩
   have n3_ : Aside0 (((((((((w16.setCell ⟨gb175, 0, none⟩ (.int .i64 ((zag l0 x4_1).f3.f0))).setCell ⟨gb175, 1, none⟩ (.string ((zag l0 x4_1).f3.f1))).setCell ⟨gb175, 2, none⟩ (.string ((zag l0 x4_1).f3.f2))).setCell ⟨gb175, 3, none⟩ (.string ((zag l0 x4_1).f3.f3))).setCell ⟨gb175, 4, none⟩ (.slice Ao18 y169.length co18)).setCell ⟨gb175, 5, none⟩ (.int .i64 ((zag l0 x4_1).f3.f5))).setCell ⟨gb175, 6, none⟩ (.int .i64 ((zag l0 x4_1).f3.f6))).setCell ⟨gb175, 7, none⟩ (.slice Ao17 y172.length co17)).heap[gb168]? = some (.cells #[.int .i64 ((zag l0 x4_1).f3.f0), .string ((zag l0 x4_1).f3.f1), .string ((zag l0 x4_1).f3.f2), .string ((zag l0 x4_1).f3.f3), .slice A167_7 ((zag l0 x4_1).f3.f4).length c167_7, .int .i64 ((zag l0 x4_1).f3.f5), .int .i64 ((zag l0 x4_1).f3.f6), .slice A167_10 ((zag l0 x4_1).f3.f7).length c167_10] 34 (0, 0))) := ⟨by (with_reducible repeat (first | refine zai ?_ _ | refine zaj ?_ | refine zah ?_ _)); refine blk_far ?_ NB168_175.out _; (with_reducible repeat (first | refine zai ?_ _ | refine zaj ?_ | refine zah ?_ _)); refine blk_far ?_ NB168_175.out _; (with_reducible repeat (first | refine zai ?_ _ | refine zaj ?_ | refine zah ?_ _)); refine blk_far ?_ NB168_175.out _; (with_reducible repeat (first | refine zai ?_ _ | refine zaj ?_ | refine zah ?_ _)); refine blk_far ?_ NB168_175.out _; (with_reducible repeat (first | refine zai ?_ _ | refine zaj ?_ | refine zah ?_ _)); refine blk_far ?_ NB168_175.out _; (with_reducible repeat (first | refine zai ?_ _ | refine zaj ?_ | refine zah ?_ _)); refine blk_far ?_ NB168_175.out _; (with_reducible repeat (first | refine zai ?_ _ | refine zaj ?_ | refine zah ?_ _)); refine blk_far ?_ NB168_175.out _; (with_reducible repeat (first | refine zai ?_ _ | refine zaj ?_ | refine zah ?_ _)); refine blk_far ?_ NB168_175.out _; (with_reducible repeat (first | refine zai ?_ _ | refine zaj ?_ | refine zah ?_ _)); exact BK168.out⟩
   have n4_ : Aside0 (((((((((w16.setCell ⟨gb175, 0, none⟩ (.int .i64 ((zag l0 x4_1).f3.f0))).setCell ⟨gb175, 1, none⟩ (.string ((zag l0 x4_1).f3.f1))).setCell ⟨gb175, 2, none⟩ (.string ((zag l0 x4_1).f3.f2))).setCell ⟨gb175, 3, none⟩ (.string ((zag l0 x4_1).f3.f3))).setCell ⟨gb175, 4, none⟩ (.slice Ao18 y169.length co18)).setCell ⟨gb175, 5, none⟩ (.int .i64 ((zag l0 x4_1).f3.f5))).setCell ⟨gb175, 6, none⟩ (.int .i64 ((zag l0 x4_1).f3.f6))).setCell ⟨gb175, 7, none⟩ (.slice Ao17 y172.length co17)).heap[gb175]? = some (.cells #[.int .i64 ((zag l0 x4_1).f3.f0), .string ((zag l0 x4_1).f3.f1), .string ((zag l0 x4_1).f3.f2), .string ((zag l0 x4_1).f3.f3), .slice Ao18 y169.length co18, .int .i64 ((zag l0 x4_1).f3.f5), .int .i64 ((zag l0 x4_1).f3.f6), .slice Ao17 y172.length co17] 55 (0, 0))) := ⟨by (with_reducible repeat (first | refine zai ?_ _ | refine zaj ?_ | refine zah ?_ _)); refine zaq (cs := #[.int .i64 ((zag l0 x4_1).f3.f0), .string ((zag l0 x4_1).f3.f1), .string ((zag l0 x4_1).f3.f2), .string ((zag l0 x4_1).f3.f3), .slice Ao18 y169.length co18, .int .i64 ((zag l0 x4_1).f3.f5), .int .i64 ((zag l0 x4_1).f3.f6), .slice none 0 0]) ?_ 7 _ rfl; (with_reducible repeat (first | refine zai ?_ _ | refine zaj ?_ | refine zah ?_ _)); refine zaq (cs := #[.int .i64 ((zag l0 x4_1).f3.f0), .string ((zag l0 x4_1).f3.f1), .string ((zag l0 x4_1).f3.f2), .string ((zag l0 x4_1).f3.f3), .slice Ao18 y169.length co18, .int .i64 ((zag l0 x4_1).f3.f5), .int .i64 0, .slice none 0 0]) ?_ 6 _ rfl; (with_reducible repeat (first | refine zai ?_ _ | refine zaj ?_ | refine zah ?_ _)); refine zaq (cs := #[.int .i64 ((zag l0 x4_1).f3.f0), .string ((zag l0 x4_1).f3.f1), .string ((zag l0 x4_1).f3.f2), .string ((zag l0 x4_1).f3.f3), .slice Ao18 y169.length co18, .int .i64 0, .int .i64 0, .slice none 0 0]) ?_ 5 _ rfl; (with_reducible repeat (first | refine zai ?_ _ | refine zaj ?_ | refine zah ?_ _)); refine zaq (cs := #[.int .i64 ((zag l0 x4_1).f3.f0), .string ((zag l0 x4_1).f3.f1), .string ((zag l0 x4_1).f3.f2), .string ((zag l0 x4_1).f3.f3), .slice none 0 0, .int .i64 0, .int .i64 0, .slice none 0 0]) ?_ 4 _ rfl; (with_reducible repeat (first | refine zai ?_ _ | refine zaj ?_ | refine zah ?_ _)); refine zaq (cs := #[.int .i64 ((zag l0 x4_1).f3.f0), .string ((zag l0 x4_1).f3.f1), .string ((zag l0 x4_1).f3.f2), .string (⟨#[]⟩ : ByteArray), .slice none 0 0, .int .i64 0, .int .i64 0, .slice none 0 0]) ?_ 3 _ rfl; (with_reducible repeat (first | refine zai ?_ _ | refine zaj ?_ | refine zah ?_ _)); refine zaq (cs := #[.int .i64 ((zag l0 x4_1).f3.f0), .string ((zag l0 x4_1).f3.f1), .string (⟨#[]⟩ : ByteArray), .string (⟨#[]⟩ : ByteArray), .slice none 0 0, .int .i64 0, .int .i64 0, .slice none 0 0]) ?_ 2 _ rfl; (with_reducible repeat (first | refine zai ?_ _ | refine zaj ?_ | refine zah ?_ _)); refine zaq (cs := #[.int .i64 ((zag l0 x4_1).f3.f0), .string (⟨#[]⟩ : ByteArray), .string (⟨#[]⟩ : ByteArray), .string (⟨#[]⟩ : ByteArray), .slice none 0 0, .int .i64 0, .int .i64 0, .slice none 0 0]) ?_ 1 _ rfl; (with_reducible repeat (first | refine zai ?_ _ | refine zaj ?_ | refine zah ?_ _)); refine zaq (cs := #[.int .i64 0, .string (⟨#[]⟩ : ByteArray), .string (⟨#[]⟩ : ByteArray), .string (⟨#[]⟩ : ByteArray), .slice none 0 0, .int .i64 0, .int .i64 0, .slice none 0 0]) ?_ 0 _ rfl; (with_reducible repeat (first | refine zai ?_ _ | refine zaj ?_ | refine zah ?_ _)); exact BK175.out⟩
   have n5_ : Aside0 (Below w.heap.size w ((((((((w16.setCell ⟨gb175, 0, none⟩ (.int .i64 ((zag l0 x4_1).f3.f0))).setCell ⟨gb175, 1, none⟩ (.string ((zag l0 x4_1).f3.f1))).setCell ⟨gb175, 2, none⟩ (.string ((zag l0 x4_1).f3.f2))).setCell ⟨gb175, 3, none⟩ (.string ((zag l0 x4_1).f3.f3))).setCell ⟨gb175, 4, none⟩ (.slice Ao18 y169.length co18)).setCell ⟨gb175, 5, none⟩ (.int .i64 ((zag l0 x4_1).f3.f5))).setCell ⟨gb175, 6, none⟩ (.int .i64 ((zag l0 x4_1).f3.f6))).setCell ⟨gb175, 7, none⟩ (.slice Ao17 y172.length co17))) := ⟨by repeat with_reducible first | exact HB.out | apply zae | apply zac | apply zad | refine zak ?_ GE168.out | refine zak ?_ GE175.out⟩
   (try clear HO_3)
   (try clear HO171)
   (try clear HO174)
   (try clear BK168)
   (try clear BK175)
   (try clear HB)
   generalize ((((((((w16.setCell ⟨gb175, 0, none⟩ (.int .i64 ((zag l0 x4_1).f3.f0))).setCell ⟨gb175, 1, none⟩ (.string ((zag l0 x4_1).f3.f1))).setCell ⟨gb175, 2, none⟩ (.string ((zag l0 x4_1).f3.f2))).setCell ⟨gb175, 3, none⟩ (.string ((zag l0 x4_1).f3.f3))).setCell ⟨gb175, 4, none⟩ (.slice Ao18 y169.length co18)).setCell ⟨gb175, 5, none⟩ (.int .i64 ((zag l0 x4_1).f3.f5))).setCell ⟨gb175, 6, none⟩ (.int .i64 ((zag l0 x4_1).f3.f6))).setCell ⟨gb175, 7, none⟩ (.slice Ao17 y172.length co17)) = w27 at n0_ n1_ n2_ n3_ n4_ n5_ ⊢
   have HO_3 := n0_
   have HO171 := n1_
   have HO174 := n2_
   have BK168 := n3_
   have BK175 := n4_
   have HB := n5_
   clear n0_ n1_ n2_ n3_ n4_ n5_
   have n0_ := Aside0.mk (Kd.S_drew HO_3.out)
   have n1_ := Aside0.mk (Kd.R_drew HO171.out)
   have n2_ := Aside0.mk (Kd.R_drew HO174.out)
   have n3_ := Aside0.mk (zaj BK168.out)
   have n4_ := Aside0.mk (zaj BK175.out)
   have n5_ := Aside0.mk (zad HB.out)
   clear HO_3
   clear HO171
   clear HO174
   clear BK168
   clear BK175
   clear HB
   have HO_3 := n0_
   have HO171 := n1_
   have HO174 := n2_
   have BK168 := n3_
   have BK175 := n4_
   have HB := n5_
   clear n0_ n1_ n2_ n3_ n4_ n5_
   have p176 : 0 ≤ (x4_1 : Int) := of_decide_eq_true (by first | (with_reducible assumption) | assumption)
   have q176 : x4_1 < (l0.length : Int) := of_decide_eq_true (by first | (with_reducible assumption) | assumption)
   obtain ⟨ad176, A176_7, c176_7, A176_10, c176_10, e176, hx176_0, hx176_1, hx176_2, hx176_3, hx176_4, hx176_5, hx176_6, hx176_7, hx176_8, hx176_9, hx176_10, hx176_11, hl176_7, hi176_7, hl176_10, hi176_10⟩ := at_T36 HR0.out x4_1 p176 q176
   have hw176_11 := hx176_11
   have hw176_10 := hx176_10
   have hw176_9 := hx176_9
   have hw176_8 := hx176_8
   have hw176_7 := hx176_7
   have hw176_6 := hx176_6
   have hw176_5 := hx176_5
   have hw176_4 := hx176_4
   have hw176_3 := hx176_3
   have hw176_2 := hx176_2
   have hw176_1 := hx176_1
   have hw176_0 := hx176_0
   obtain rfl : ad167 = ad176 := (by injection e176)
   replace hx176_0 := (HB.out.cell (World.block_lt_of_cell? w _ hx176_0)).trans hx176_0
   replace hx176_1 := (HB.out.cell (World.block_lt_of_cell? w _ hx176_1)).trans hx176_1
   replace hx176_2 := (HB.out.cell (World.block_lt_of_cell? w _ hx176_2)).trans hx176_2
   replace hx176_3 := (HB.out.cell (World.block_lt_of_cell? w _ hx176_3)).trans hx176_3
   replace hx176_4 := (HB.out.cell (World.block_lt_of_cell? w _ hx176_4)).trans hx176_4
   replace hx176_5 := (HB.out.cell (World.block_lt_of_cell? w _ hx176_5)).trans hx176_5
   replace hx176_6 := (HB.out.cell (World.block_lt_of_cell? w _ hx176_6)).trans hx176_6
   replace hx176_7 := (HB.out.cell (World.block_lt_of_cell? w _ hx176_7)).trans hx176_7
   replace hx176_8 := (HB.out.cell (World.block_lt_of_cell? w _ hx176_8)).trans hx176_8
   replace hx176_9 := (HB.out.cell (World.block_lt_of_cell? w _ hx176_9)).trans hx176_9
   replace hx176_10 := (HB.out.cell (World.block_lt_of_cell? w _ hx176_10)).trans hx176_10
   replace hx176_11 := (HB.out.cell (World.block_lt_of_cell? w _ hx176_11)).trans hx176_11
   have HR176_7 := Aside0.mk hi176_7
   have HC176_7 := Aside0.mk hl176_7
   clear hi176_7 hl176_7
   have HR176_10 := Aside0.mk hi176_10
   have HC176_10 := Aside0.mk hl176_10
   clear hi176_10 hl176_10
   replace p176 := eq_true p176
   replace q176 := eq_true q176
   have p177 : 0 ≤ (x4_1 : Int) := of_decide_eq_true (by first | (with_reducible assumption) | assumption)
   have q177 : x4_1 < (l0.length : Int) := of_decide_eq_true (by first | (with_reducible assumption) | assumption)
   obtain ⟨ad177, A177_7, c177_7, A177_10, c177_10, e177, hx177_0, hx177_1, hx177_2, hx177_3, hx177_4, hx177_5, hx177_6, hx177_7, hx177_8, hx177_9, hx177_10, hx177_11, hl177_7, hi177_7, hl177_10, hi177_10⟩ := at_T36 HR0.out x4_1 p177 q177
   have hw177_11 := hx177_11
   have hw177_10 := hx177_10
   have hw177_9 := hx177_9
   have hw177_8 := hx177_8
   have hw177_7 := hx177_7
   have hw177_6 := hx177_6
   have hw177_5 := hx177_5
   have hw177_4 := hx177_4
   have hw177_3 := hx177_3
   have hw177_2 := hx177_2
   have hw177_1 := hx177_1
   have hw177_0 := hx177_0
   obtain rfl : ad167 = ad177 := (by injection e177)
   replace hx177_0 := (HB.out.cell (World.block_lt_of_cell? w _ hx177_0)).trans hx177_0
   replace hx177_1 := (HB.out.cell (World.block_lt_of_cell? w _ hx177_1)).trans hx177_1
   replace hx177_2 := (HB.out.cell (World.block_lt_of_cell? w _ hx177_2)).trans hx177_2
   replace hx177_3 := (HB.out.cell (World.block_lt_of_cell? w _ hx177_3)).trans hx177_3
   replace hx177_4 := (HB.out.cell (World.block_lt_of_cell? w _ hx177_4)).trans hx177_4
   replace hx177_5 := (HB.out.cell (World.block_lt_of_cell? w _ hx177_5)).trans hx177_5
   replace hx177_6 := (HB.out.cell (World.block_lt_of_cell? w _ hx177_6)).trans hx177_6
   replace hx177_7 := (HB.out.cell (World.block_lt_of_cell? w _ hx177_7)).trans hx177_7
   replace hx177_8 := (HB.out.cell (World.block_lt_of_cell? w _ hx177_8)).trans hx177_8
   replace hx177_9 := (HB.out.cell (World.block_lt_of_cell? w _ hx177_9)).trans hx177_9
   replace hx177_10 := (HB.out.cell (World.block_lt_of_cell? w _ hx177_10)).trans hx177_10
   replace hx177_11 := (HB.out.cell (World.block_lt_of_cell? w _ hx177_11)).trans hx177_11
   have HR177_7 := Aside0.mk hi177_7
   have HC177_7 := Aside0.mk hl177_7
   clear hi177_7 hl177_7
   have HR177_10 := Aside0.mk hi177_10
   have HC177_10 := Aside0.mk hl177_10
   clear hi177_10 hl177_10
   replace p177 := eq_true p177
   replace q177 := eq_true q177
   have ea_ := Option.some.inj (hx176_7.symm.trans hx177_7)
   injection ea_ with ea_ en_ ec_
   subst ea_
   subst ec_
   clear en_
   have ea_ := Option.some.inj (hx176_10.symm.trans hx177_10)
   injection ea_ with ea_ en_ ec_
   subst ea_
   subst ec_
   clear en_
   have p178 : 0 ≤ (x4_1 : Int) := of_decide_eq_true (by first | (with_reducible assumption) | assumption)
   have q178 : x4_1 < (l0.length : Int) := of_decide_eq_true (by first | (with_reducible assumption) | assumption)
   obtain ⟨ad178, A178_7, c178_7, A178_10, c178_10, e178, hx178_0, hx178_1, hx178_2, hx178_3, hx178_4, hx178_5, hx178_6, hx178_7, hx178_8, hx178_9, hx178_10, hx178_11, hl178_7, hi178_7, hl178_10, hi178_10⟩ := at_T36 HR0.out x4_1 p178 q178
   have hw178_11 := hx178_11
   have hw178_10 := hx178_10
   have hw178_9 := hx178_9
   have hw178_8 := hx178_8
   have hw178_7 := hx178_7
   have hw178_6 := hx178_6
   have hw178_5 := hx178_5
   have hw178_4 := hx178_4
   have hw178_3 := hx178_3
   have hw178_2 := hx178_2
   have hw178_1 := hx178_1
   have hw178_0 := hx178_0
   obtain rfl : ad167 = ad178 := (by injection e178)
   replace hx178_0 := (HB.out.cell (World.block_lt_of_cell? w _ hx178_0)).trans hx178_0
   replace hx178_1 := (HB.out.cell (World.block_lt_of_cell? w _ hx178_1)).trans hx178_1
   replace hx178_2 := (HB.out.cell (World.block_lt_of_cell? w _ hx178_2)).trans hx178_2
   replace hx178_3 := (HB.out.cell (World.block_lt_of_cell? w _ hx178_3)).trans hx178_3
   replace hx178_4 := (HB.out.cell (World.block_lt_of_cell? w _ hx178_4)).trans hx178_4
   replace hx178_5 := (HB.out.cell (World.block_lt_of_cell? w _ hx178_5)).trans hx178_5
   replace hx178_6 := (HB.out.cell (World.block_lt_of_cell? w _ hx178_6)).trans hx178_6
   replace hx178_7 := (HB.out.cell (World.block_lt_of_cell? w _ hx178_7)).trans hx178_7
   replace hx178_8 := (HB.out.cell (World.block_lt_of_cell? w _ hx178_8)).trans hx178_8
   replace hx178_9 := (HB.out.cell (World.block_lt_of_cell? w _ hx178_9)).trans hx178_9
   replace hx178_10 := (HB.out.cell (World.block_lt_of_cell? w _ hx178_10)).trans hx178_10
   replace hx178_11 := (HB.out.cell (World.block_lt_of_cell? w _ hx178_11)).trans hx178_11
   have HR178_7 := Aside0.mk hi178_7
   have HC178_7 := Aside0.mk hl178_7
   clear hi178_7 hl178_7
   have HR178_10 := Aside0.mk hi178_10
   have HC178_10 := Aside0.mk hl178_10
   clear hi178_10 hl178_10
   replace p178 := eq_true p178
   replace q178 := eq_true q178
   have ea_ := Option.some.inj (hx176_7.symm.trans hx178_7)
   injection ea_ with ea_ en_ ec_
   subst ea_
   subst ec_
   clear en_
   have ea_ := Option.some.inj (hx176_10.symm.trans hx178_10)
   injection ea_ with ea_ en_ ec_
   subst ea_
   subst ec_
   clear en_
   have p179 : 0 ≤ (x4_1 : Int) := of_decide_eq_true (by first | (with_reducible assumption) | assumption)
   have q179 : x4_1 < (l0.length : Int) := of_decide_eq_true (by first | (with_reducible assumption) | assumption)
   obtain ⟨ad179, A179_7, c179_7, A179_10, c179_10, e179, hx179_0, hx179_1, hx179_2, hx179_3, hx179_4, hx179_5, hx179_6, hx179_7, hx179_8, hx179_9, hx179_10, hx179_11, hl179_7, hi179_7, hl179_10, hi179_10⟩ := at_T36 HR0.out x4_1 p179 q179
   have hw179_11 := hx179_11
   have hw179_10 := hx179_10
   have hw179_9 := hx179_9
   have hw179_8 := hx179_8
   have hw179_7 := hx179_7
   have hw179_6 := hx179_6
   have hw179_5 := hx179_5
   have hw179_4 := hx179_4
   have hw179_3 := hx179_3
   have hw179_2 := hx179_2
   have hw179_1 := hx179_1
   have hw179_0 := hx179_0
   obtain rfl : ad167 = ad179 := (by injection e179)
   replace hx179_0 := (HB.out.cell (World.block_lt_of_cell? w _ hx179_0)).trans hx179_0
   replace hx179_1 := (HB.out.cell (World.block_lt_of_cell? w _ hx179_1)).trans hx179_1
   replace hx179_2 := (HB.out.cell (World.block_lt_of_cell? w _ hx179_2)).trans hx179_2
   replace hx179_3 := (HB.out.cell (World.block_lt_of_cell? w _ hx179_3)).trans hx179_3
   replace hx179_4 := (HB.out.cell (World.block_lt_of_cell? w _ hx179_4)).trans hx179_4
   replace hx179_5 := (HB.out.cell (World.block_lt_of_cell? w _ hx179_5)).trans hx179_5
   replace hx179_6 := (HB.out.cell (World.block_lt_of_cell? w _ hx179_6)).trans hx179_6
   replace hx179_7 := (HB.out.cell (World.block_lt_of_cell? w _ hx179_7)).trans hx179_7
   replace hx179_8 := (HB.out.cell (World.block_lt_of_cell? w _ hx179_8)).trans hx179_8
   replace hx179_9 := (HB.out.cell (World.block_lt_of_cell? w _ hx179_9)).trans hx179_9
   replace hx179_10 := (HB.out.cell (World.block_lt_of_cell? w _ hx179_10)).trans hx179_10
   replace hx179_11 := (HB.out.cell (World.block_lt_of_cell? w _ hx179_11)).trans hx179_11
   have HR179_7 := Aside0.mk hi179_7
   have HC179_7 := Aside0.mk hl179_7
   clear hi179_7 hl179_7
   have HR179_10 := Aside0.mk hi179_10
   have HC179_10 := Aside0.mk hl179_10
   clear hi179_10 hl179_10
   replace p179 := eq_true p179
   replace q179 := eq_true q179
   have ea_ := Option.some.inj (hx176_7.symm.trans hx179_7)
   injection ea_ with ea_ en_ ec_
   subst ea_
   subst ec_
   clear en_
   have ea_ := Option.some.inj (hx176_10.symm.trans hx179_10)
   injection ea_ with ea_ en_ ec_
   subst ea_
   subst ec_
   clear en_
   refine start_ (n := 26) (S := fun w' => w'.cell? ⟨gb175, 0, none⟩ = some (.int .i64 ((zag l0 x4_1).f3.f0)) ∧ w'.cell? ⟨gb175, 1, none⟩ = some (.string ((zag l0 x4_1).f3.f1)) ∧ w'.cell? ⟨gb175, 2, none⟩ = some (.string ((zag l0 x4_1).f3.f2)) ∧ w'.cell? ⟨gb175, 3, none⟩ = some (.string ((zag l0 x4_1).f3.f3)) ∧ w'.cell? ⟨gb175, 4, none⟩ = some (.slice Ao18 y169.length co18) ∧ w'.cell? ⟨gb175, 5, none⟩ = some (.int .i64 ((zag l0 x4_1).f3.f5)) ∧ w'.cell? ⟨gb175, 6, none⟩ = some (.int .i64 ((zag l0 x4_1).f3.f6)) ∧ w'.cell? ⟨gb175, 7, none⟩ = some (.slice Ao17 y172.length co17) ∧ w'.cell? (ad167.add ((x4_1).toNat * 12)) = some (.int .i64 ((zag l0 x4_1).f0)) ∧ w'.cell? ⟨(ad167.add ((x4_1).toNat * 12)).block, (ad167.add ((x4_1).toNat * 12)).off + 1, none⟩ = some (.int .i64 ((zag l0 x4_1).f1)) ∧ w'.cell? ⟨(ad167.add ((x4_1).toNat * 12)).block, (ad167.add ((x4_1).toNat * 12)).off + 2, none⟩ = some (.int .i64 ((zag l0 x4_1).f2)) ∧ w'.cell? ⟨(ad167.add ((x4_1).toNat * 12)).block, (ad167.add ((x4_1).toNat * 12)).off + 3, none⟩ = some (.int .i64 ((zag l0 x4_1).f3.f0)) ∧ w'.cell? ⟨(ad167.add ((x4_1).toNat * 12)).block, (ad167.add ((x4_1).toNat * 12)).off + 4, none⟩ = some (.string ((zag l0 x4_1).f3.f1)) ∧ w'.cell? ⟨(ad167.add ((x4_1).toNat * 12)).block, (ad167.add ((x4_1).toNat * 12)).off + 5, none⟩ = some (.string ((zag l0 x4_1).f3.f2)) ∧ w'.cell? ⟨(ad167.add ((x4_1).toNat * 12)).block, (ad167.add ((x4_1).toNat * 12)).off + 6, none⟩ = some (.string ((zag l0 x4_1).f3.f3)) ∧ w'.cell? ⟨(ad167.add ((x4_1).toNat * 12)).block, (ad167.add ((x4_1).toNat * 12)).off + 7, none⟩ = some (.slice A176_7 ((zag l0 x4_1).f3.f4).length c176_7) ∧ w'.cell? ⟨(ad167.add ((x4_1).toNat * 12)).block, (ad167.add ((x4_1).toNat * 12)).off + 8, none⟩ = some (.int .i64 ((zag l0 x4_1).f3.f5)) ∧ w'.cell? ⟨(ad167.add ((x4_1).toNat * 12)).block, (ad167.add ((x4_1).toNat * 12)).off + 9, none⟩ = some (.int .i64 ((zag l0 x4_1).f3.f6)) ∧ w'.cell? ⟨(ad167.add ((x4_1).toNat * 12)).block, (ad167.add ((x4_1).toNat * 12)).off + 10, none⟩ = some (.slice A176_10 ((zag l0 x4_1).f3.f7).length c176_10) ∧ w'.cell? ⟨(ad167.add ((x4_1).toNat * 12)).block, (ad167.add ((x4_1).toNat * 12)).off + 11, none⟩ = some (.string ((zag l0 x4_1).f4)) ∧ w'.cell? (ad167.add ((x4_1).toNat * 12)) = some (.int .i64 ((zag l0 x4_1).f0)) ∧ w'.cell? ⟨(ad167.add ((x4_1).toNat * 12)).block, (ad167.add ((x4_1).toNat * 12)).off + 1, none⟩ = some (.int .i64 ((zag l0 x4_1).f1)) ∧ w'.cell? ⟨(ad167.add ((x4_1).toNat * 12)).block, (ad167.add ((x4_1).toNat * 12)).off + 2, none⟩ = some (.int .i64 ((zag l0 x4_1).f2)) ∧ w'.cell? ⟨(ad167.add ((x4_1).toNat * 12)).block, (ad167.add ((x4_1).toNat * 12)).off + 3, none⟩ = some (.int .i64 ((zag l0 x4_1).f3.f0)) ∧ w'.cell? ⟨(ad167.add ((x4_1).toNat * 12)).block, (ad167.add ((x4_1).toNat * 12)).off + 4, none⟩ = some (.string ((zag l0 x4_1).f3.f1)) ∧ w'.cell? ⟨(ad167.add ((x4_1).toNat * 12)).block, (ad167.add ((x4_1).toNat * 12)).off + 5, none⟩ = some (.string ((zag l0 x4_1).f3.f2)) ∧ w'.cell? ⟨(ad167.add ((x4_1).toNat * 12)).block, (ad167.add ((x4_1).toNat * 12)).off + 6, none⟩ = some (.string ((zag l0 x4_1).f3.f3)) ∧ w'.cell? ⟨(ad167.add ((x4_1).toNat * 12)).block, (ad167.add ((x4_1).toNat * 12)).off + 7, none⟩ = some (.slice A176_7 ((zag l0 x4_1).f3.f4).length c176_7) ∧ w'.cell? ⟨(ad167.add ((x4_1).toNat * 12)).block, (ad167.add ((x4_1).toNat * 12)).off + 8, none⟩ = some (.int .i64 ((zag l0 x4_1).f3.f5)) ∧ w'.cell? ⟨(ad167.add ((x4_1).toNat * 12)).block, (ad167.add ((x4_1).toNat * 12)).off + 9, none⟩ = some (.int .i64 ((zag l0 x4_1).f3.f6)) ∧ w'.cell? ⟨(ad167.add ((x4_1).toNat * 12)).block, (ad167.add ((x4_1).toNat * 12)).off + 10, none⟩ = some (.slice A176_10 ((zag l0 x4_1).f3.f7).length c176_10) ∧ w'.cell? ⟨(ad167.add ((x4_1).toNat * 12)).block, (ad167.add ((x4_1).toNat * 12)).off + 11, none⟩ = some (.string ((zag l0 x4_1).f4)) ∧ w'.cell? (ad167.add ((x4_1).toNat * 12)) = some (.int .i64 ((zag l0 x4_1).f0)) ∧ w'.cell? ⟨(ad167.add ((x4_1).toNat * 12)).block, (ad167.add ((x4_1).toNat * 12)).off + 1, none⟩ = some (.int .i64 ((zag l0 x4_1).f1)) ∧ w'.cell? ⟨(ad167.add ((x4_1).toNat * 12)).block, (ad167.add ((x4_1).toNat * 12)).off + 2, none⟩ = some (.int .i64 ((zag l0 x4_1).f2)) ∧ w'.cell? ⟨(ad167.add ((x4_1).toNat * 12)).block, (ad167.add ((x4_1).toNat * 12)).off + 3, none⟩ = some (.int .i64 ((zag l0 x4_1).f3.f0)) ∧ w'.cell? ⟨(ad167.add ((x4_1).toNat * 12)).block, (ad167.add ((x4_1).toNat * 12)).off + 4, none⟩ = some (.string ((zag l0 x4_1).f3.f1)) ∧ w'.cell? ⟨(ad167.add ((x4_1).toNat * 12)).block, (ad167.add ((x4_1).toNat * 12)).off + 5, none⟩ = some (.string ((zag l0 x4_1).f3.f2)) ∧ w'.cell? ⟨(ad167.add ((x4_1).toNat * 12)).block, (ad167.add ((x4_1).toNat * 12)).off + 6, none⟩ = some (.string ((zag l0 x4_1).f3.f3)) ∧ w'.cell? ⟨(ad167.add ((x4_1).toNat * 12)).block, (ad167.add ((x4_1).toNat * 12)).off + 7, none⟩ = some (.slice A176_7 ((zag l0 x4_1).f3.f4).length c176_7) ∧ w'.cell? ⟨(ad167.add ((x4_1).toNat * 12)).block, (ad167.add ((x4_1).toNat * 12)).off + 8, none⟩ = some (.int .i64 ((zag l0 x4_1).f3.f5)) ∧ w'.cell? ⟨(ad167.add ((x4_1).toNat * 12)).block, (ad167.add ((x4_1).toNat * 12)).off + 9, none⟩ = some (.int .i64 ((zag l0 x4_1).f3.f6)) ∧ w'.cell? ⟨(ad167.add ((x4_1).toNat * 12)).block, (ad167.add ((x4_1).toNat * 12)).off + 10, none⟩ = some (.slice A176_10 ((zag l0 x4_1).f3.f7).length c176_10) ∧ w'.cell? ⟨(ad167.add ((x4_1).toNat * 12)).block, (ad167.add ((x4_1).toNat * 12)).off + 11, none⟩ = some (.string ((zag l0 x4_1).f4)) ∧ w'.cell? (ad167.add ((x4_1).toNat * 12)) = some (.int .i64 ((zag l0 x4_1).f0)) ∧ w'.cell? ⟨(ad167.add ((x4_1).toNat * 12)).block, (ad167.add ((x4_1).toNat * 12)).off + 1, none⟩ = some (.int .i64 ((zag l0 x4_1).f1)) ∧ w'.cell? ⟨(ad167.add ((x4_1).toNat * 12)).block, (ad167.add ((x4_1).toNat * 12)).off + 2, none⟩ = some (.int .i64 ((zag l0 x4_1).f2)) ∧ w'.cell? ⟨(ad167.add ((x4_1).toNat * 12)).block, (ad167.add ((x4_1).toNat * 12)).off + 3, none⟩ = some (.int .i64 ((zag l0 x4_1).f3.f0)) ∧ w'.cell? ⟨(ad167.add ((x4_1).toNat * 12)).block, (ad167.add ((x4_1).toNat * 12)).off + 4, none⟩ = some (.string ((zag l0 x4_1).f3.f1)) ∧ w'.cell? ⟨(ad167.add ((x4_1).toNat * 12)).block, (ad167.add ((x4_1).toNat * 12)).off + 5, none⟩ = some (.string ((zag l0 x4_1).f3.f2)) ∧ w'.cell? ⟨(ad167.add ((x4_1).toNat * 12)).block, (ad167.add ((x4_1).toNat * 12)).off + 6, none⟩ = some (.string ((zag l0 x4_1).f3.f3)) ∧ w'.cell? ⟨(ad167.add ((x4_1).toNat * 12)).block, (ad167.add ((x4_1).toNat * 12)).off + 7, none⟩ = some (.slice A176_7 ((zag l0 x4_1).f3.f4).length c176_7) ∧ w'.cell? ⟨(ad167.add ((x4_1).toNat * 12)).block, (ad167.add ((x4_1).toNat * 12)).off + 8, none⟩ = some (.int .i64 ((zag l0 x4_1).f3.f5)) ∧ w'.cell? ⟨(ad167.add ((x4_1).toNat * 12)).block, (ad167.add ((x4_1).toNat * 12)).off + 9, none⟩ = some (.int .i64 ((zag l0 x4_1).f3.f6)) ∧ w'.cell? ⟨(ad167.add ((x4_1).toNat * 12)).block, (ad167.add ((x4_1).toNat * 12)).off + 10, none⟩ = some (.slice A176_10 ((zag l0 x4_1).f3.f7).length c176_10) ∧ w'.cell? ⟨(ad167.add ((x4_1).toNat * 12)).block, (ad167.add ((x4_1).toNat * 12)).off + 11, none⟩ = some (.string ((zag l0 x4_1).f4))) (ds := []) #[false, false, false, false, false, false, false, false, false, false, false, false, false, false, false, false, false, false, false, false, false, false, false, false, false, false] (by kernel_rfl) rfl rfl ⟨(zaa BK175.out 0).trans rfl, (zaa BK175.out 1).trans rfl, (zaa BK175.out 2).trans rfl, (zaa BK175.out 3).trans rfl, (zaa BK175.out 4).trans rfl, (zaa BK175.out 5).trans rfl, (zaa BK175.out 6).trans rfl, (zaa BK175.out 7).trans rfl, ((HB.out.cell (World.block_lt_of_cell? w _ hw176_0)).trans hw176_0), ((HB.out.cell (World.block_lt_of_cell? w _ hw176_1)).trans hw176_1), ((HB.out.cell (World.block_lt_of_cell? w _ hw176_2)).trans hw176_2), ((HB.out.cell (World.block_lt_of_cell? w _ hw176_3)).trans hw176_3), ((HB.out.cell (World.block_lt_of_cell? w _ hw176_4)).trans hw176_4), ((HB.out.cell (World.block_lt_of_cell? w _ hw176_5)).trans hw176_5), ((HB.out.cell (World.block_lt_of_cell? w _ hw176_6)).trans hw176_6), ((HB.out.cell (World.block_lt_of_cell? w _ hw176_7)).trans hw176_7), ((HB.out.cell (World.block_lt_of_cell? w _ hw176_8)).trans hw176_8), ((HB.out.cell (World.block_lt_of_cell? w _ hw176_9)).trans hw176_9), ((HB.out.cell (World.block_lt_of_cell? w _ hw176_10)).trans hw176_10), ((HB.out.cell (World.block_lt_of_cell? w _ hw176_11)).trans hw176_11), ((HB.out.cell (World.block_lt_of_cell? w _ hw177_0)).trans hw177_0), ((HB.out.cell (World.block_lt_of_cell? w _ hw177_1)).trans hw177_1), ((HB.out.cell (World.block_lt_of_cell? w _ hw177_2)).trans hw177_2), ((HB.out.cell (World.block_lt_of_cell? w _ hw177_3)).trans hw177_3), ((HB.out.cell (World.block_lt_of_cell? w _ hw177_4)).trans hw177_4), ((HB.out.cell (World.block_lt_of_cell? w _ hw177_5)).trans hw177_5), ((HB.out.cell (World.block_lt_of_cell? w _ hw177_6)).trans hw177_6), ((HB.out.cell (World.block_lt_of_cell? w _ hw177_7)).trans hw177_7), ((HB.out.cell (World.block_lt_of_cell? w _ hw177_8)).trans hw177_8), ((HB.out.cell (World.block_lt_of_cell? w _ hw177_9)).trans hw177_9), ((HB.out.cell (World.block_lt_of_cell? w _ hw177_10)).trans hw177_10), ((HB.out.cell (World.block_lt_of_cell? w _ hw177_11)).trans hw177_11), ((HB.out.cell (World.block_lt_of_cell? w _ hw178_0)).trans hw178_0), ((HB.out.cell (World.block_lt_of_cell? w _ hw178_1)).trans hw178_1), ((HB.out.cell (World.block_lt_of_cell? w _ hw178_2)).trans hw178_2), ((HB.out.cell (World.block_lt_of_cell? w _ hw178_3)).trans hw178_3), ((HB.out.cell (World.block_lt_of_cell? w _ hw178_4)).trans hw178_4), ((HB.out.cell (World.block_lt_of_cell? w _ hw178_5)).trans hw178_5), ((HB.out.cell (World.block_lt_of_cell? w _ hw178_6)).trans hw178_6), ((HB.out.cell (World.block_lt_of_cell? w _ hw178_7)).trans hw178_7), ((HB.out.cell (World.block_lt_of_cell? w _ hw178_8)).trans hw178_8), ((HB.out.cell (World.block_lt_of_cell? w _ hw178_9)).trans hw178_9), ((HB.out.cell (World.block_lt_of_cell? w _ hw178_10)).trans hw178_10), ((HB.out.cell (World.block_lt_of_cell? w _ hw178_11)).trans hw178_11), ((HB.out.cell (World.block_lt_of_cell? w _ hw179_0)).trans hw179_0), ((HB.out.cell (World.block_lt_of_cell? w _ hw179_1)).trans hw179_1), ((HB.out.cell (World.block_lt_of_cell? w _ hw179_2)).trans hw179_2), ((HB.out.cell (World.block_lt_of_cell? w _ hw179_3)).trans hw179_3), ((HB.out.cell (World.block_lt_of_cell? w _ hw179_4)).trans hw179_4), ((HB.out.cell (World.block_lt_of_cell? w _ hw179_5)).trans hw179_5), ((HB.out.cell (World.block_lt_of_cell? w _ hw179_6)).trans hw179_6), ((HB.out.cell (World.block_lt_of_cell? w _ hw179_7)).trans hw179_7), ((HB.out.cell (World.block_lt_of_cell? w _ hw179_8)).trans hw179_8), ((HB.out.cell (World.block_lt_of_cell? w _ hw179_9)).trans hw179_9), ((HB.out.cell (World.block_lt_of_cell? w _ hw179_10)).trans hw179_10), ((HB.out.cell (World.block_lt_of_cell? w _ hw179_11)).trans hw179_11)⟩ (fun hHeld => ?_); refine with_tabW cofferlaw22_told.tab7 cofferlaw22_told.bits7 (fun HT_ HW_ => ?_)
   generalize w27.drew = w28 at HO_3 HO171 HO174 BK168 BK175 HB HR176_10 HR176_7 HR177_10 HR177_7 HR178_10 HR178_7 HR179_10 HR179_7 hx176_0 hx176_1 hx176_10 hx176_11 hx176_2 hx176_3 hx176_4 hx176_5 hx176_6 hx176_7 hx176_8 hx176_9 hx177_0 hx177_1 hx177_10 hx177_11 hx177_2 hx177_3 hx177_4 hx177_5 hx177_6 hx177_7 hx177_8 hx177_9 hx178_0 hx178_1 hx178_10 hx178_11 hx178_2 hx178_3 hx178_4 hx178_5 hx178_6 hx178_7 hx178_8 hx178_9 hx179_0 hx179_1 hx179_10 hx179_11 hx179_2 hx179_3 hx179_4 hx179_5 hx179_6 hx179_7 hx179_8 hx179_9 hHeld ⊢
   refine pure_ (i := 0) (N := some 37) (v := ?_) (a' := ?_) (tm 26 1) rfl rfl (zan HT_.out (by kernel_rfl)) (fun _ _ _ h => h) (Or.inl ⟨by rfl, ?_⟩) ?_ ?_
   rotate_left
   ·
    intro w'
    go_simp
    with_reducible rfl
   rotate_left
   ·
    simp only [aw]
    rfl
   refine pure_ (i := 1) (N := some 38) (v := ?_) (a' := ?_) (tm 26 3) rfl rfl (zan HT_.out (by kernel_rfl)) (fun _ _ _ h => h) (Or.inl ⟨by rfl, ?_⟩) ?_ ?_
   rotate_left
   ·
    intro w'
    go_simp
    with_reducible rfl
   rotate_left
   ·
    simp only [aw]
    rfl
   refine pure_ (i := 2) (N := some 39) (v := ?_) (a' := ?_) (tm 26 7) rfl rfl (zan HT_.out (by kernel_rfl)) (fun _ _ _ h => h) (Or.inl ⟨by rfl, ?_⟩) ?_ ?_
   rotate_left
   ·
    intro w'
    go_simp
    with_reducible rfl
   rotate_left
   ·
    simp only [aw]
    rfl
   refine pure_ (i := 3) (N := some 40) (v := ?_) (a' := ?_) (tm 26 15) rfl rfl (zan HT_.out (by kernel_rfl)) (fun _ _ _ h => h) (Or.inl ⟨by rfl, ?_⟩) ?_ ?_
   rotate_left
   ·
    intro w'
    go_simp
    with_reducible rfl
   rotate_left
   ·
    simp only [aw]
    rfl
   refine pure_ (i := 4) (N := some 41) (v := ?_) (a' := ?_) (tm 26 31) rfl rfl (zan HT_.out (by kernel_rfl)) (fun _ _ _ h => h) (Or.inl ⟨by rfl, ?_⟩) ?_ ?_
   rotate_left
   ·
    intro w'
    go_simp
    with_reducible rfl
   rotate_left
   ·
    simp only [aw]
    rfl
   refine pure_ (i := 6) (N := some 43) (v := ?_) (a' := ?_) (tm 26 95) rfl rfl (zan HT_.out (by kernel_rfl)) (fun _ _ _ h => h) (Or.inl ⟨by rfl, ?_⟩) ?_ ?_
   rotate_left
   ·
    intro w'
    go_simp
    with_reducible rfl
   rotate_left
   ·
    simp only [aw]
    rfl
   refine pure_ (i := 7) (N := some 44) (v := ?_) (a' := ?_) (tm 26 223) rfl rfl (zan HT_.out (by kernel_rfl)) (fun _ _ _ h => h) (Or.inl ⟨by rfl, ?_⟩) ?_ ?_
   rotate_left
   ·
    intro w'
    go_simp
    with_reducible rfl
   rotate_left
   ·
    simp only [aw]
    rfl
   refine pure_ (i := 8) (N := some 45) (v := ?_) (a' := ?_) (tm 26 479) rfl rfl (zan HT_.out (by kernel_rfl)) (fun _ _ _ h => h) (Or.inl ⟨by rfl, ?_⟩) ?_ ?_
   rotate_left
   ·
    intro w'
    go_simp
    with_reducible rfl
   rotate_left
   ·
    simp only [aw]
    rfl
   refine pure_ (i := 9) (N := some 46) (v := ?_) (a' := ?_) (tm 26 991) rfl rfl (zan HT_.out (by kernel_rfl)) (fun _ _ _ h => h) (Or.inl ⟨by rfl, ?_⟩) ?_ ?_
   rotate_left
   ·
    intro w'
    go_simp
    with_reducible rfl
   rotate_left
   ·
    simp only [aw]
    rfl
   refine pure_ (i := 11) (N := some 48) (v := ?_) (a' := ?_) (tm 26 3039) rfl rfl (zan HT_.out (by kernel_rfl)) (fun _ _ _ h => h) (Or.inl ⟨by rfl, ?_⟩) ?_ ?_
   rotate_left
   ·
    intro w'
    go_simp
    with_reducible rfl
   rotate_left
   ·
    simp only [aw]
    rfl
   refine pure_ (i := 12) (N := some 49) (v := ?_) (a' := ?_) (tm 26 7135) rfl rfl (zan HT_.out (by kernel_rfl)) (fun _ _ _ h => h) (Or.inl ⟨by rfl, ?_⟩) ?_ ?_
   rotate_left
   ·
    intro w'
    go_simp
    with_reducible rfl
   rotate_left
   ·
    simp only [aw]
    rfl
   refine pure_ (i := 13) (N := some 50) (v := ?_) (a' := ?_) (tm 26 15327) rfl rfl (zan HT_.out (by kernel_rfl)) (fun _ _ _ h => h) (Or.inl ⟨by rfl, ?_⟩) ?_ ?_
   rotate_left
   ·
    intro w'
    go_simp
    with_reducible rfl
   rotate_left
   ·
    simp only [aw]
    rfl
   refine pure_ (i := 14) (N := some 51) (v := ?_) (a' := ?_) (tm 26 31711) rfl rfl (zan HT_.out (by kernel_rfl)) (fun _ _ _ h => h) (Or.inl ⟨by rfl, ?_⟩) ?_ ?_
   rotate_left
   ·
    intro w'
    go_simp
    with_reducible rfl
   rotate_left
   ·
    simp only [aw]
    rfl
   refine pure_ (i := 17) (N := some 54) (v := ?_) (a' := ?_) (tm 26 162783) rfl rfl (zan HT_.out (by kernel_rfl)) (fun _ _ _ h => h) (Or.inl ⟨by rfl, ?_⟩) ?_ ?_
   rotate_left
   ·
    intro w'
    go_simp
    with_reducible rfl
   rotate_left
   ·
    simp only [aw]
    rfl
   refine pure_ (i := 18) (N := some 55) (v := ?_) (a' := ?_) (tm 26 424927) rfl rfl (zan HT_.out (by kernel_rfl)) (fun _ _ _ h => h) (Or.inl ⟨by rfl, ?_⟩) ?_ ?_
   rotate_left
   ·
    intro w'
    go_simp
    with_reducible rfl
   rotate_left
   ·
    simp only [aw]
    rfl
   refine pure_ (i := 19) (N := some 56) (v := ?_) (a' := ?_) (tm 26 949215) rfl rfl (zan HT_.out (by kernel_rfl)) (fun _ _ _ h => h) (Or.inl ⟨by rfl, ?_⟩) ?_ ?_
   rotate_left
   ·
    intro w'
    go_simp
    with_reducible rfl
   rotate_left
   ·
    simp only [aw]
    rfl
   refine pure_ (i := 20) (N := some 57) (v := ?_) (a' := ?_) (tm 26 1997791) rfl rfl (zan HT_.out (by kernel_rfl)) (fun _ _ _ h => h) (Or.inl ⟨by rfl, ?_⟩) ?_ ?_
   rotate_left
   ·
    intro w'
    go_simp
    with_reducible rfl
   rotate_left
   ·
    simp only [aw]
    rfl
   refine take_ (i := 5) (N := some 42) (v := ?_) (a' := ?_) #[true, true, true, true, true, true, true, true, true, true, false, true, true, true, true, false, false, true, true, true, true, false, false, false, false, false] rfl rfl (zaw HT_.out HW_.out (by kernel_rfl)) (fun _ _ _ h => h) (Or.inl ⟨by rfl, ?_⟩) hHeld ?_ ?_
   rotate_left
   ·
    rintro w' ⟨s0, s1, s2, s3, s4, s5, s6, s7, s8, s9, s10, s11, s12, s13, s14, s15, s16, s17, s18, s19, s20, s21, s22, s23, s24, s25, s26, s27, s28, s29, s30, s31, s32, s33, s34, s35, s36, s37, s38, s39, s40, s41, s42, s43, s44, s45, s46, s47, s48, s49, s50, s51, s52, s53, s54, s55⟩
    go_simp
    with_reducible rfl
   rotate_left
   ·
    simp only [aw]
    rfl
   refine take_ (i := 10) (N := some 47) (v := ?_) (a' := ?_) #[true, true, true, true, true, true, true, true, true, true, true, true, true, true, true, false, false, true, true, true, true, false, false, false, false, false] rfl rfl (zaw HT_.out HW_.out (by kernel_rfl)) (fun _ _ _ h => h) (Or.inl ⟨by rfl, ?_⟩) hHeld ?_ ?_
   rotate_left
   ·
    rintro w' ⟨s0, s1, s2, s3, s4, s5, s6, s7, s8, s9, s10, s11, s12, s13, s14, s15, s16, s17, s18, s19, s20, s21, s22, s23, s24, s25, s26, s27, s28, s29, s30, s31, s32, s33, s34, s35, s36, s37, s38, s39, s40, s41, s42, s43, s44, s45, s46, s47, s48, s49, s50, s51, s52, s53, s54, s55⟩
    go_simp
    with_reducible rfl
   rotate_left
   ·
    simp only [aw]
    rfl
   refine take_ (i := 15) (N := some 52) (v := ?_) (a' := ?_) #[true, true, true, true, true, true, true, true, true, true, true, true, true, true, true, true, false, true, true, true, true, false, false, false, false, false] rfl rfl (zaw HT_.out HW_.out (by kernel_rfl)) (fun _ _ _ h => h) (Or.inl ⟨by rfl, ?_⟩) hHeld ?_ ?_
   rotate_left
   ·
    rintro w' ⟨s0, s1, s2, s3, s4, s5, s6, s7, s8, s9, s10, s11, s12, s13, s14, s15, s16, s17, s18, s19, s20, s21, s22, s23, s24, s25, s26, s27, s28, s29, s30, s31, s32, s33, s34, s35, s36, s37, s38, s39, s40, s41, s42, s43, s44, s45, s46, s47, s48, s49, s50, s51, s52, s53, s54, s55⟩
    go_simp
    with_reducible rfl
   rotate_left
   ·
    simp only [aw]
    rfl
   refine take_ (i := 16) (N := some 53) (v := ?_) (a' := ?_) #[true, true, true, true, true, true, true, true, true, true, true, true, true, true, true, true, true, true, true, true, true, false, false, false, false, false] rfl rfl (zaw HT_.out HW_.out (by kernel_rfl)) (fun _ _ _ h => h) (Or.inl ⟨by rfl, ?_⟩) hHeld ?_ ?_
   rotate_left
   ·
    rintro w' ⟨s0, s1, s2, s3, s4, s5, s6, s7, s8, s9, s10, s11, s12, s13, s14, s15, s16, s17, s18, s19, s20, s21, s22, s23, s24, s25, s26, s27, s28, s29, s30, s31, s32, s33, s34, s35, s36, s37, s38, s39, s40, s41, s42, s43, s44, s45, s46, s47, s48, s49, s50, s51, s52, s53, s54, s55⟩
    go_simp
    with_reducible rfl
   rotate_left
   ·
    simp only [aw]
    rfl
   refine take_ (i := 21) (N := some 58) (v := ?_) (a' := ?_) #[true, true, true, true, true, true, true, true, true, true, true, true, true, true, true, true, true, true, true, true, true, true, false, false, false, false] rfl rfl (zaw HT_.out HW_.out (by kernel_rfl)) (fun _ _ _ h => h) (Or.inl ⟨by rfl, ?_⟩) hHeld ?_ ?_
   rotate_left
   ·
    rintro w' ⟨s0, s1, s2, s3, s4, s5, s6, s7, s8, s9, s10, s11, s12, s13, s14, s15, s16, s17, s18, s19, s20, s21, s22, s23, s24, s25, s26, s27, s28, s29, s30, s31, s32, s33, s34, s35, s36, s37, s38, s39, s40, s41, s42, s43, s44, s45, s46, s47, s48, s49, s50, s51, s52, s53, s54, s55⟩
    go_simp
    with_reducible rfl
   rotate_left
   ·
    simp only [aw]
    rfl
   refine pure_ (i := 22) (N := some 59) (v := ?_) (a' := ?_) (tm 26 8388607) rfl rfl (zan HT_.out (by kernel_rfl)) (fun _ _ _ h => h) (Or.inl ⟨by rfl, ?_⟩) ?_ ?_
   rotate_left
   ·
    intro w'
    go_simp
    with_reducible rfl
   rotate_left
   ·
    simp only [aw]
    rfl
   refine one_ (i := 23) (N := some 60) (tm 26 16777215) rfl rfl (one_of HT_.out (by kernel_rfl)) (by decide) (fun K hK => ?_)
   refine value_ (w1 := ?_) (v := ?_) (by rfl) rfl ?_ ?_
   rotate_left 2
   ·
    go_simp
    constructor
    ·
     rfl
    rfl
   refine hK.out _ _ ⟨(zaa (zah BK175.out _) 0).trans rfl, (zaa (zah BK175.out _) 1).trans rfl, (zaa (zah BK175.out _) 2).trans rfl, (zaa (zah BK175.out _) 3).trans rfl, (zaa (zah BK175.out _) 4).trans rfl, (zaa (zah BK175.out _) 5).trans rfl, (zaa (zah BK175.out _) 6).trans rfl, (zaa (zah BK175.out _) 7).trans rfl, (World.cell?_alloc_lt _ _ _ (World.block_lt_of_cell? _ _ (((HB.out.cell (World.block_lt_of_cell? w _ hw176_0)).trans hw176_0)))).trans (((HB.out.cell (World.block_lt_of_cell? w _ hw176_0)).trans hw176_0)), (World.cell?_alloc_lt _ _ _ (World.block_lt_of_cell? _ _ (((HB.out.cell (World.block_lt_of_cell? w _ hw176_1)).trans hw176_1)))).trans (((HB.out.cell (World.block_lt_of_cell? w _ hw176_1)).trans hw176_1)), (World.cell?_alloc_lt _ _ _ (World.block_lt_of_cell? _ _ (((HB.out.cell (World.block_lt_of_cell? w _ hw176_2)).trans hw176_2)))).trans (((HB.out.cell (World.block_lt_of_cell? w _ hw176_2)).trans hw176_2)), (World.cell?_alloc_lt _ _ _ (World.block_lt_of_cell? _ _ (((HB.out.cell (World.block_lt_of_cell? w _ hw176_3)).trans hw176_3)))).trans (((HB.out.cell (World.block_lt_of_cell? w _ hw176_3)).trans hw176_3)), (World.cell?_alloc_lt _ _ _ (World.block_lt_of_cell? _ _ (((HB.out.cell (World.block_lt_of_cell? w _ hw176_4)).trans hw176_4)))).trans (((HB.out.cell (World.block_lt_of_cell? w _ hw176_4)).trans hw176_4)), (World.cell?_alloc_lt _ _ _ (World.block_lt_of_cell? _ _ (((HB.out.cell (World.block_lt_of_cell? w _ hw176_5)).trans hw176_5)))).trans (((HB.out.cell (World.block_lt_of_cell? w _ hw176_5)).trans hw176_5)), (World.cell?_alloc_lt _ _ _ (World.block_lt_of_cell? _ _ (((HB.out.cell (World.block_lt_of_cell? w _ hw176_6)).trans hw176_6)))).trans (((HB.out.cell (World.block_lt_of_cell? w _ hw176_6)).trans hw176_6)), (World.cell?_alloc_lt _ _ _ (World.block_lt_of_cell? _ _ (((HB.out.cell (World.block_lt_of_cell? w _ hw176_7)).trans hw176_7)))).trans (((HB.out.cell (World.block_lt_of_cell? w _ hw176_7)).trans hw176_7)), (World.cell?_alloc_lt _ _ _ (World.block_lt_of_cell? _ _ (((HB.out.cell (World.block_lt_of_cell? w _ hw176_8)).trans hw176_8)))).trans (((HB.out.cell (World.block_lt_of_cell? w _ hw176_8)).trans hw176_8)), (World.cell?_alloc_lt _ _ _ (World.block_lt_of_cell? _ _ (((HB.out.cell (World.block_lt_of_cell? w _ hw176_9)).trans hw176_9)))).trans (((HB.out.cell (World.block_lt_of_cell? w _ hw176_9)).trans hw176_9)), (World.cell?_alloc_lt _ _ _ (World.block_lt_of_cell? _ _ (((HB.out.cell (World.block_lt_of_cell? w _ hw176_10)).trans hw176_10)))).trans (((HB.out.cell (World.block_lt_of_cell? w _ hw176_10)).trans hw176_10)), (World.cell?_alloc_lt _ _ _ (World.block_lt_of_cell? _ _ (((HB.out.cell (World.block_lt_of_cell? w _ hw176_11)).trans hw176_11)))).trans (((HB.out.cell (World.block_lt_of_cell? w _ hw176_11)).trans hw176_11)), (World.cell?_alloc_lt _ _ _ (World.block_lt_of_cell? _ _ (((HB.out.cell (World.block_lt_of_cell? w _ hw177_0)).trans hw177_0)))).trans (((HB.out.cell (World.block_lt_of_cell? w _ hw177_0)).trans hw177_0)), (World.cell?_alloc_lt _ _ _ (World.block_lt_of_cell? _ _ (((HB.out.cell (World.block_lt_of_cell? w _ hw177_1)).trans hw177_1)))).trans (((HB.out.cell (World.block_lt_of_cell? w _ hw177_1)).trans hw177_1)), (World.cell?_alloc_lt _ _ _ (World.block_lt_of_cell? _ _ (((HB.out.cell (World.block_lt_of_cell? w _ hw177_2)).trans hw177_2)))).trans (((HB.out.cell (World.block_lt_of_cell? w _ hw177_2)).trans hw177_2)), (World.cell?_alloc_lt _ _ _ (World.block_lt_of_cell? _ _ (((HB.out.cell (World.block_lt_of_cell? w _ hw177_3)).trans hw177_3)))).trans (((HB.out.cell (World.block_lt_of_cell? w _ hw177_3)).trans hw177_3)), (World.cell?_alloc_lt _ _ _ (World.block_lt_of_cell? _ _ (((HB.out.cell (World.block_lt_of_cell? w _ hw177_4)).trans hw177_4)))).trans (((HB.out.cell (World.block_lt_of_cell? w _ hw177_4)).trans hw177_4)), (World.cell?_alloc_lt _ _ _ (World.block_lt_of_cell? _ _ (((HB.out.cell (World.block_lt_of_cell? w _ hw177_5)).trans hw177_5)))).trans (((HB.out.cell (World.block_lt_of_cell? w _ hw177_5)).trans hw177_5)), (World.cell?_alloc_lt _ _ _ (World.block_lt_of_cell? _ _ (((HB.out.cell (World.block_lt_of_cell? w _ hw177_6)).trans hw177_6)))).trans (((HB.out.cell (World.block_lt_of_cell? w _ hw177_6)).trans hw177_6)), (World.cell?_alloc_lt _ _ _ (World.block_lt_of_cell? _ _ (((HB.out.cell (World.block_lt_of_cell? w _ hw177_7)).trans hw177_7)))).trans (((HB.out.cell (World.block_lt_of_cell? w _ hw177_7)).trans hw177_7)), (World.cell?_alloc_lt _ _ _ (World.block_lt_of_cell? _ _ (((HB.out.cell (World.block_lt_of_cell? w _ hw177_8)).trans hw177_8)))).trans (((HB.out.cell (World.block_lt_of_cell? w _ hw177_8)).trans hw177_8)), (World.cell?_alloc_lt _ _ _ (World.block_lt_of_cell? _ _ (((HB.out.cell (World.block_lt_of_cell? w _ hw177_9)).trans hw177_9)))).trans (((HB.out.cell (World.block_lt_of_cell? w _ hw177_9)).trans hw177_9)), (World.cell?_alloc_lt _ _ _ (World.block_lt_of_cell? _ _ (((HB.out.cell (World.block_lt_of_cell? w _ hw177_10)).trans hw177_10)))).trans (((HB.out.cell (World.block_lt_of_cell? w _ hw177_10)).trans hw177_10)), (World.cell?_alloc_lt _ _ _ (World.block_lt_of_cell? _ _ (((HB.out.cell (World.block_lt_of_cell? w _ hw177_11)).trans hw177_11)))).trans (((HB.out.cell (World.block_lt_of_cell? w _ hw177_11)).trans hw177_11)), (World.cell?_alloc_lt _ _ _ (World.block_lt_of_cell? _ _ (((HB.out.cell (World.block_lt_of_cell? w _ hw178_0)).trans hw178_0)))).trans (((HB.out.cell (World.block_lt_of_cell? w _ hw178_0)).trans hw178_0)), (World.cell?_alloc_lt _ _ _ (World.block_lt_of_cell? _ _ (((HB.out.cell (World.block_lt_of_cell? w _ hw178_1)).trans hw178_1)))).trans (((HB.out.cell (World.block_lt_of_cell? w _ hw178_1)).trans hw178_1)), (World.cell?_alloc_lt _ _ _ (World.block_lt_of_cell? _ _ (((HB.out.cell (World.block_lt_of_cell? w _ hw178_2)).trans hw178_2)))).trans (((HB.out.cell (World.block_lt_of_cell? w _ hw178_2)).trans hw178_2)), (World.cell?_alloc_lt _ _ _ (World.block_lt_of_cell? _ _ (((HB.out.cell (World.block_lt_of_cell? w _ hw178_3)).trans hw178_3)))).trans (((HB.out.cell (World.block_lt_of_cell? w _ hw178_3)).trans hw178_3)), (World.cell?_alloc_lt _ _ _ (World.block_lt_of_cell? _ _ (((HB.out.cell (World.block_lt_of_cell? w _ hw178_4)).trans hw178_4)))).trans (((HB.out.cell (World.block_lt_of_cell? w _ hw178_4)).trans hw178_4)), (World.cell?_alloc_lt _ _ _ (World.block_lt_of_cell? _ _ (((HB.out.cell (World.block_lt_of_cell? w _ hw178_5)).trans hw178_5)))).trans (((HB.out.cell (World.block_lt_of_cell? w _ hw178_5)).trans hw178_5)), (World.cell?_alloc_lt _ _ _ (World.block_lt_of_cell? _ _ (((HB.out.cell (World.block_lt_of_cell? w _ hw178_6)).trans hw178_6)))).trans (((HB.out.cell (World.block_lt_of_cell? w _ hw178_6)).trans hw178_6)), (World.cell?_alloc_lt _ _ _ (World.block_lt_of_cell? _ _ (((HB.out.cell (World.block_lt_of_cell? w _ hw178_7)).trans hw178_7)))).trans (((HB.out.cell (World.block_lt_of_cell? w _ hw178_7)).trans hw178_7)), (World.cell?_alloc_lt _ _ _ (World.block_lt_of_cell? _ _ (((HB.out.cell (World.block_lt_of_cell? w _ hw178_8)).trans hw178_8)))).trans (((HB.out.cell (World.block_lt_of_cell? w _ hw178_8)).trans hw178_8)), (World.cell?_alloc_lt _ _ _ (World.block_lt_of_cell? _ _ (((HB.out.cell (World.block_lt_of_cell? w _ hw178_9)).trans hw178_9)))).trans (((HB.out.cell (World.block_lt_of_cell? w _ hw178_9)).trans hw178_9)), (World.cell?_alloc_lt _ _ _ (World.block_lt_of_cell? _ _ (((HB.out.cell (World.block_lt_of_cell? w _ hw178_10)).trans hw178_10)))).trans (((HB.out.cell (World.block_lt_of_cell? w _ hw178_10)).trans hw178_10)), (World.cell?_alloc_lt _ _ _ (World.block_lt_of_cell? _ _ (((HB.out.cell (World.block_lt_of_cell? w _ hw178_11)).trans hw178_11)))).trans (((HB.out.cell (World.block_lt_of_cell? w _ hw178_11)).trans hw178_11)), (World.cell?_alloc_lt _ _ _ (World.block_lt_of_cell? _ _ (((HB.out.cell (World.block_lt_of_cell? w _ hw179_0)).trans hw179_0)))).trans (((HB.out.cell (World.block_lt_of_cell? w _ hw179_0)).trans hw179_0)), (World.cell?_alloc_lt _ _ _ (World.block_lt_of_cell? _ _ (((HB.out.cell (World.block_lt_of_cell? w _ hw179_1)).trans hw179_1)))).trans (((HB.out.cell (World.block_lt_of_cell? w _ hw179_1)).trans hw179_1)), (World.cell?_alloc_lt _ _ _ (World.block_lt_of_cell? _ _ (((HB.out.cell (World.block_lt_of_cell? w _ hw179_2)).trans hw179_2)))).trans (((HB.out.cell (World.block_lt_of_cell? w _ hw179_2)).trans hw179_2)), (World.cell?_alloc_lt _ _ _ (World.block_lt_of_cell? _ _ (((HB.out.cell (World.block_lt_of_cell? w _ hw179_3)).trans hw179_3)))).trans (((HB.out.cell (World.block_lt_of_cell? w _ hw179_3)).trans hw179_3)), (World.cell?_alloc_lt _ _ _ (World.block_lt_of_cell? _ _ (((HB.out.cell (World.block_lt_of_cell? w _ hw179_4)).trans hw179_4)))).trans (((HB.out.cell (World.block_lt_of_cell? w _ hw179_4)).trans hw179_4)), (World.cell?_alloc_lt _ _ _ (World.block_lt_of_cell? _ _ (((HB.out.cell (World.block_lt_of_cell? w _ hw179_5)).trans hw179_5)))).trans (((HB.out.cell (World.block_lt_of_cell? w _ hw179_5)).trans hw179_5)), (World.cell?_alloc_lt _ _ _ (World.block_lt_of_cell? _ _ (((HB.out.cell (World.block_lt_of_cell? w _ hw179_6)).trans hw179_6)))).trans (((HB.out.cell (World.block_lt_of_cell? w _ hw179_6)).trans hw179_6)), (World.cell?_alloc_lt _ _ _ (World.block_lt_of_cell? _ _ (((HB.out.cell (World.block_lt_of_cell? w _ hw179_7)).trans hw179_7)))).trans (((HB.out.cell (World.block_lt_of_cell? w _ hw179_7)).trans hw179_7)), (World.cell?_alloc_lt _ _ _ (World.block_lt_of_cell? _ _ (((HB.out.cell (World.block_lt_of_cell? w _ hw179_8)).trans hw179_8)))).trans (((HB.out.cell (World.block_lt_of_cell? w _ hw179_8)).trans hw179_8)), (World.cell?_alloc_lt _ _ _ (World.block_lt_of_cell? _ _ (((HB.out.cell (World.block_lt_of_cell? w _ hw179_9)).trans hw179_9)))).trans (((HB.out.cell (World.block_lt_of_cell? w _ hw179_9)).trans hw179_9)), (World.cell?_alloc_lt _ _ _ (World.block_lt_of_cell? _ _ (((HB.out.cell (World.block_lt_of_cell? w _ hw179_10)).trans hw179_10)))).trans (((HB.out.cell (World.block_lt_of_cell? w _ hw179_10)).trans hw179_10)), (World.cell?_alloc_lt _ _ _ (World.block_lt_of_cell? _ _ (((HB.out.cell (World.block_lt_of_cell? w _ hw179_11)).trans hw179_11)))).trans (((HB.out.cell (World.block_lt_of_cell? w _ hw179_11)).trans hw179_11))⟩ (fun hHeld => ?_)
   clear hK K
   refine norm_ (a' := ?_) ?_ ?_
   rotate_left
   ·
    show Act.put _ (some 60) _ = _
    simp only [aw]
    rfl
   refine one_ (i := 24) (N := some 61) (tm 26 33554431) rfl rfl (one_of HT_.out (by kernel_rfl)) (by decide) (fun K hK => ?_)
   refine Kd.S_append_step k57 (w0 := w) w.heap.size (by rfl) (.tmp 37) (.tmp 60) 22 57 (.agg #[(.int .i64 0), (.int .i64 0), (.int .i64 0), (.int .i64 0), (.string ⟨#[]⟩), (.string ⟨#[]⟩), (.string ⟨#[]⟩), (.slice none 0 0), (.int .i64 0), (.int .i64 0), (.slice none 0 0), (.string ⟨#[]⟩)]) 160 rfl Tryd.underlying22 info57 rfl (by decide) (by omega) u3 x3_1 (⟨(zag l0 x4_1).f0, (zag l0 x4_1).f1, (zag l0 x4_1).f2, (⟨(zag l0 x4_1).f3.f0, (zag l0 x4_1).f3.f1, (zag l0 x4_1).f3.f2, (zag l0 x4_1).f3.f3, y169, (zag l0 x4_1).f3.f5, (zag l0 x4_1).f3.f6, y172⟩ : S55), (zag l0 x4_1).f4⟩ : S57) [.int .i64 ((zag l0 x4_1).f0), .int .i64 ((zag l0 x4_1).f1), .int .i64 ((zag l0 x4_1).f2), .int .i64 ((zag l0 x4_1).f3.f0), .string ((zag l0 x4_1).f3.f1), .string ((zag l0 x4_1).f3.f2), .string ((zag l0 x4_1).f3.f3), .slice Ao18 y169.length co18, .int .i64 ((zag l0 x4_1).f3.f5), .int .i64 ((zag l0 x4_1).f3.f6), .slice Ao17 y172.length co17, .string ((zag l0 x4_1).f4)] (fun _ => True) (fun k_ => some k_ = (.slice Ao18 y169.length co18 : Value).ownBlock ∨ some k_ = (.slice Ao17 y172.length co17 : Value).ownBlock) rfl rfl ?aP (fun k_ hk_ => hk_.elim (fun h_ => ((Kd.R_mono (ok' := fun k_ => ((fun _ => True)) k_ ∧ some k_ ≠ (u3 : Value).ownBlock) (Kd.R_apart' (HO171.out) (Kd.S_typed HO_3.out) (by decide)) (fun k_ hk => ⟨trivial, hk.2⟩))).1 k_ h_.symm) (fun h_ => ((Kd.R_mono (ok' := fun k_ => ((fun _ => True)) k_ ∧ some k_ ≠ (u3 : Value).ownBlock) (Kd.R_apart' (HO174.out) (Kd.S_typed HO_3.out) (by decide)) (fun k_ hk => ⟨trivial, hk.2⟩))).1 k_ h_.symm)) ?aF ?aO ?aB ?aS ?aL ?_
   (case aP => exact k57_mkM _ _ _ (⟨(zag l0 x4_1).f0, (zag l0 x4_1).f1, (zag l0 x4_1).f2, (⟨(zag l0 x4_1).f3.f0, (zag l0 x4_1).f3.f1, (zag l0 x4_1).f3.f2, (zag l0 x4_1).f3.f3, y169, (zag l0 x4_1).f3.f5, (zag l0 x4_1).f3.f6, y172⟩ : S55), (zag l0 x4_1).f4⟩ : S57) (Kd.R_mono (Kd.R_tight rfl (Kd.R_mono (ok' := fun k_ => ((fun _ => True)) k_ ∧ some k_ ≠ (u3 : Value).ownBlock) (Kd.R_apart' (HO171.out) (Kd.S_typed HO_3.out) (by decide)) (fun k_ hk => ⟨trivial, hk.2⟩))) (fun _ h_ => Or.inl h_)) (Kd.R_mono (Kd.R_tight rfl (Kd.R_mono (ok' := fun k_ => ((fun _ => True)) k_ ∧ some k_ ≠ (u3 : Value).ownBlock) (Kd.R_apart' (HO174.out) (Kd.S_typed HO_3.out) (by decide)) (fun k_ hk => ⟨trivial, hk.2⟩))) (fun _ h_ => Or.inr (h_))))
   (case aB => exact (by repeat with_reducible first | exact HB.out | apply zae | apply zac | apply zad | refine zak ?_ GE168.out | refine zak ?_ GE175.out))
   (case aF => exact (fun _ _ => trivial))
   (case aO => exact (by (with_reducible repeat (first | apply Kd.S_alloc | apply Kd.S_drewN | apply Kd.S_drew)); exact Kd.S_mono HO_3.out (fun k_ hk => ⟨trivial, fun e_ => e_.elim (fun h_ => hk.1 h_) (fun h_ => hk.2 h_)⟩)))
   (case aS => exact (zam (by repeat with_reducible first | exact HB.out | apply zae | apply zac | apply zad | refine zak ?_ GE168.out | refine zak ?_ GE175.out)))
   (case aL => have := LMc6.out; omega)
   intro v181 w29 ho hb hg hat
   rw [← Ny180.out] at ho
   have n0_ := Aside0.mk (zbe (g := gb168) (o := .cells #[.int .i64 ((zag l0 x4_1).f3.f0), .string ((zag l0 x4_1).f3.f1), .string ((zag l0 x4_1).f3.f2), .string ((zag l0 x4_1).f3.f3), .slice A167_7 ((zag l0 x4_1).f3.f4).length c167_7, .int .i64 ((zag l0 x4_1).f3.f5), .int .i64 ((zag l0 x4_1).f3.f6), .slice A167_10 ((zag l0 x4_1).f3.f7).length c167_10] 34 (0, 0)) (by (with_reducible repeat (first | refine zai ?_ _ | refine zaj ?_ | refine zah ?_ _)); exact BK168.out) hg (Kd.S_ne HO_3.out BK168.out (by decide)))
   have n1_ := Aside0.mk (zbe (g := gb175) (o := .cells #[.int .i64 ((zag l0 x4_1).f3.f0), .string ((zag l0 x4_1).f3.f1), .string ((zag l0 x4_1).f3.f2), .string ((zag l0 x4_1).f3.f3), .slice Ao18 y169.length co18, .int .i64 ((zag l0 x4_1).f3.f5), .int .i64 ((zag l0 x4_1).f3.f6), .slice Ao17 y172.length co17] 55 (0, 0)) (by (with_reducible repeat (first | refine zai ?_ _ | refine zaj ?_ | refine zah ?_ _)); exact BK175.out) hg (Kd.S_ne HO_3.out BK175.out (by decide)))
   have n2_ := Aside0.mk (hb)
   have n3_ := Aside0.mk (ho)
   clear BK168
   clear BK175
   clear HB
   clear HO_3
   clear HO171
   clear HO174
   have BK168 := n0_
   have BK175 := n1_
   have HB := n2_
   have HO182 := n3_
   clear n0_ n1_ n2_ n3_
   clear ho hb hg hat
   refine hK.out _ _ ⟨(zaa BK175.out 0).trans rfl, (zaa BK175.out 1).trans rfl, (zaa BK175.out 2).trans rfl, (zaa BK175.out 3).trans rfl, (zaa BK175.out 4).trans rfl, (zaa BK175.out 5).trans rfl, (zaa BK175.out 6).trans rfl, (zaa BK175.out 7).trans rfl, ((HB.out.cell (World.block_lt_of_cell? w _ hw176_0)).trans hw176_0), ((HB.out.cell (World.block_lt_of_cell? w _ hw176_1)).trans hw176_1), ((HB.out.cell (World.block_lt_of_cell? w _ hw176_2)).trans hw176_2), ((HB.out.cell (World.block_lt_of_cell? w _ hw176_3)).trans hw176_3), ((HB.out.cell (World.block_lt_of_cell? w _ hw176_4)).trans hw176_4), ((HB.out.cell (World.block_lt_of_cell? w _ hw176_5)).trans hw176_5), ((HB.out.cell (World.block_lt_of_cell? w _ hw176_6)).trans hw176_6), ((HB.out.cell (World.block_lt_of_cell? w _ hw176_7)).trans hw176_7), ((HB.out.cell (World.block_lt_of_cell? w _ hw176_8)).trans hw176_8), ((HB.out.cell (World.block_lt_of_cell? w _ hw176_9)).trans hw176_9), ((HB.out.cell (World.block_lt_of_cell? w _ hw176_10)).trans hw176_10), ((HB.out.cell (World.block_lt_of_cell? w _ hw176_11)).trans hw176_11), ((HB.out.cell (World.block_lt_of_cell? w _ hw177_0)).trans hw177_0), ((HB.out.cell (World.block_lt_of_cell? w _ hw177_1)).trans hw177_1), ((HB.out.cell (World.block_lt_of_cell? w _ hw177_2)).trans hw177_2), ((HB.out.cell (World.block_lt_of_cell? w _ hw177_3)).trans hw177_3), ((HB.out.cell (World.block_lt_of_cell? w _ hw177_4)).trans hw177_4), ((HB.out.cell (World.block_lt_of_cell? w _ hw177_5)).trans hw177_5), ((HB.out.cell (World.block_lt_of_cell? w _ hw177_6)).trans hw177_6), ((HB.out.cell (World.block_lt_of_cell? w _ hw177_7)).trans hw177_7), ((HB.out.cell (World.block_lt_of_cell? w _ hw177_8)).trans hw177_8), ((HB.out.cell (World.block_lt_of_cell? w _ hw177_9)).trans hw177_9), ((HB.out.cell (World.block_lt_of_cell? w _ hw177_10)).trans hw177_10), ((HB.out.cell (World.block_lt_of_cell? w _ hw177_11)).trans hw177_11), ((HB.out.cell (World.block_lt_of_cell? w _ hw178_0)).trans hw178_0), ((HB.out.cell (World.block_lt_of_cell? w _ hw178_1)).trans hw178_1), ((HB.out.cell (World.block_lt_of_cell? w _ hw178_2)).trans hw178_2), ((HB.out.cell (World.block_lt_of_cell? w _ hw178_3)).trans hw178_3), ((HB.out.cell (World.block_lt_of_cell? w _ hw178_4)).trans hw178_4), ((HB.out.cell (World.block_lt_of_cell? w _ hw178_5)).trans hw178_5), ((HB.out.cell (World.block_lt_of_cell? w _ hw178_6)).trans hw178_6), ((HB.out.cell (World.block_lt_of_cell? w _ hw178_7)).trans hw178_7), ((HB.out.cell (World.block_lt_of_cell? w _ hw178_8)).trans hw178_8), ((HB.out.cell (World.block_lt_of_cell? w _ hw178_9)).trans hw178_9), ((HB.out.cell (World.block_lt_of_cell? w _ hw178_10)).trans hw178_10), ((HB.out.cell (World.block_lt_of_cell? w _ hw178_11)).trans hw178_11), ((HB.out.cell (World.block_lt_of_cell? w _ hw179_0)).trans hw179_0), ((HB.out.cell (World.block_lt_of_cell? w _ hw179_1)).trans hw179_1), ((HB.out.cell (World.block_lt_of_cell? w _ hw179_2)).trans hw179_2), ((HB.out.cell (World.block_lt_of_cell? w _ hw179_3)).trans hw179_3), ((HB.out.cell (World.block_lt_of_cell? w _ hw179_4)).trans hw179_4), ((HB.out.cell (World.block_lt_of_cell? w _ hw179_5)).trans hw179_5), ((HB.out.cell (World.block_lt_of_cell? w _ hw179_6)).trans hw179_6), ((HB.out.cell (World.block_lt_of_cell? w _ hw179_7)).trans hw179_7), ((HB.out.cell (World.block_lt_of_cell? w _ hw179_8)).trans hw179_8), ((HB.out.cell (World.block_lt_of_cell? w _ hw179_9)).trans hw179_9), ((HB.out.cell (World.block_lt_of_cell? w _ hw179_10)).trans hw179_10), ((HB.out.cell (World.block_lt_of_cell? w _ hw179_11)).trans hw179_11)⟩ (fun hHeld => ?_)
   clear hK K
   refine norm_ (a' := ?_) ?_ ?_
   rotate_left
   ·
    show Act.put _ (some 61) _ = _
    simp only [aw]
    rfl
   refine pure_ (i := 25) (N := some 3) (v := ?_) (a' := ?_) (tm 26 67108863) rfl rfl (zan HT_.out (by kernel_rfl)) (fun _ _ _ h => h) (Or.inl ⟨by rfl, ?_⟩) ?_ ?_
   rotate_left
   ·
    intro w'
    go_simp
    with_reducible rfl
   rotate_left
   ·
    simp only [aw]
    rfl
   refine done_ (done_of HT_.out (by kernel_rfl)) ?_
   try go_wp2
   go_roundg k1
   case measure => have := HK1.out; omega
   case rel => exact ⟨(y180), (wrap64 (x4_1 + 1)), (by first | rfl | (simp; done) | (simp [*]; done)), H', ⟨by have := HK1.out; omega⟩, ⟨by (with_reducible repeat (first | apply Kd.S_alloc | apply Kd.S_drewN | apply Kd.S_drew)); exact HO182.out⟩, ⟨by repeat with_reducible first | exact HB.out | apply zae | apply zac | apply zad | refine zak ?_ GE168.out | refine zak ?_ GE175.out⟩⟩

end Go.Proofs.YtdmlgligljagoaaDoor.PS

set_option linter.unusedVariables false
set_option linter.unusedSimpArgs false
namespace Go.Proofs.YtdmlgligljagoaaDoor
open Go.RowKit Go.Proofs.YtdmlgligljagoaaDoorW.PrintWords PS

def toldS (s : S34) : S55 := ⟨s.f0, s.f1, s.f2, s.f3, s.f4, s.f5, s.f6, s.f7⟩
def toldC (c : S36) : S57 := ⟨c.f0, c.f1, c.f2, toldS c.f3, c.f4⟩
def givnS (s : S55) : S34 := ⟨s.f0, s.f1, s.f2, s.f3, s.f4, s.f5, s.f6, s.f7⟩
def givnC (c : S57) : S36 := ⟨c.f0, c.f1, c.f2, givnS c.f3, c.f4⟩
/-- lists short enough for the machine -/
def Short (l : List S36) : Prop := l.length ≤ 4294967296 ∧ ∀ c ∈ l, c.f3.f4.length ≤ 4294967296 ∧ c.f3.f7.length ≤ 4294967296
theorem rdK_get (l : List S36) (i : Nat) (h : i < l.length) : zag l (i : Int) = l[i]'h := by unfold zag; simp [h]
theorem told_go (l : List S36) (h : Short l) : ∀ d i (acc : List S57), i + d = l.length → acc.length = i →
    Ev (fun k => cofferlaw22_told.l0 k l acc (i : Int)) (acc ++ (l.drop i).map toldC) := by
  obtain ⟨h0, h1⟩ := h
  intro d
  induction d with
  | zero =>
    intro i acc hi ha
    refine Ev.step (f := fun _ => some _) (fun k => ?_) (Ev.now _)
    rw [cofferlaw22_told.l0, if_neg (by omega), List.drop_of_length_le (by omega)]
    simp
  | succ d ih =>
    intro i acc hi ha
    have hlt : i < l.length := by omega
    have hr := rdK_get l i hlt
    obtain ⟨h4, h7⟩ := h1 _ (List.getElem_mem hlt)
    rw [List.drop_eq_getElem_cons hlt, List.map_cons]
    have hn := ih (i + 1) (acc ++ [toldC (l[i]'hlt)]) (by omega) (by simp; omega)
    rw [List.append_assoc] at hn
    refine Ev.step (fun k => ?_) hn
    rw [cofferlaw22_told.l0, if_pos (by omega), if_pos (by omega), hr, if_pos (by simp; omega), if_pos (by simp; omega), if_pos (by omega), w64s (by omega)]
    rfl
theorem told_ev (l : List S36) (h : Short l) : Ev (fun k => cofferlaw22_told.f k l) (l.map toldC) := by
  have := told_go l h l.length 0 [] (by omega) rfl
  rw [List.drop_zero, List.nil_append] at this
  exact this
theorem told_short {l : List S36} (h : Short l) : ∀ c ∈ l.map toldC, c.f3.f4.length ≤ 4294967296 ∧ c.f3.f7.length ≤ 4294967296 := by
  intro c hc
  obtain ⟨x, hx, rfl⟩ := List.mem_map.1 hc
  exact h.2 x hx
theorem clean_short {l : List S36} (h : ∀ c ∈ l, Clean 8192 c) (hn : l.length ≤ 1024) : Short l :=
  ⟨by omega, fun c hc => by have h4 := (h c hc).st.n4; have h7 := (h c hc).st.n7; omega⟩
theorem parse_short {s : List UInt8} {l : List S36} (h : parseV s = (l, 0)) : Short l := by
  obtain ⟨h1, h2⟩ := parse_clean h
  exact clean_short h1 h2
end Go.Proofs.YtdmlgligljagoaaDoor

set_option linter.unusedVariables false
set_option linter.unusedSimpArgs false
namespace Go.Proofs.YtdmlgligljagoaaDoor
open Go.RowKit

theorem I64_of_wf {n : Int} (h : (Lit.int .i64 n).wf = true) : I64 n := by
  simp only [Lit.wf, IntKind.min, IntKind.max, IntKind.signed, IntKind.bits, Bool.and_eq_true, decide_eq_true_eq, if_true] at h
  unfold I64
  obtain ⟨h1, h2⟩ := h
  exact ⟨by simpa using h1, by have := h2; simp at this; omega⟩
end Go.Proofs.YtdmlgligljagoaaDoor

set_option linter.unusedVariables false
set_option linter.unusedSimpArgs false
namespace Go.Proofs.YtdmlgligljagoaaDoor
open Go.ChangeShapes Go.WideShapes Go.ChangeAt Go.RowKit
theorem own : ownKnob Tryd.prog.godebug = none := by kernel_rfl
theorem laidOut : laidOutB Tryd.prog = true := by kernel_rfl
theorem trodAll_below {H : Type} {enc : TypeId × Value → H} {W W' : World} (hb : Below W.heap.size W W') : ∀ (ts : List TypeId) (vs : List Value) (ds : List (DataW H)) (ps : List MemPlace),
    (∀ t ∈ ts, Tryd.prog.readableRec t = true ∧ t < Tryd.prog.types.size) → DataW.TrodAll enc Tryd.prog W 0 (fun _ => true) true ts vs ds ps → (∀ x ∈ ps, x.block < W.heap.size) →
    DataW.TrodAll enc Tryd.prog W' 0 (fun b => decide (b < W.heap.size)) true ts vs ds ps
  | [], [], [], _, _, h, _ => h
  | t :: ts, v :: vs, d :: ds, ps, hr, ⟨p, q, h1, h2, e⟩, hlt => by
    subst e
    have ht := hr t List.mem_cons_self
    exact ⟨p, q, Below.trod laidOut ht.1 ht.2 h1 hb (fun x hx => hlt x (List.mem_append_left _ hx)), trodAll_below hb ts vs ds q (fun x hx => hr x (List.mem_cons_of_mem _ hx)) h2 (fun x hx => hlt x (List.mem_append_right _ hx)), rfl⟩
  | [], _ :: _, _, _, _, h, _ => h.elim
  | [], [], _ :: _, _, _, h, _ => h.elim
  | _ :: _, [], _, _, _, h, _ => h.elim
  | _ :: _, _ :: _, [], _, _, h, _ => h.elim
theorem law_post {H : Type} {enc : TypeId × Value → H} {s : ChangeSpec} {f : Func} {apart fresh handsOn : Bool} {W W' : World} {args : Array Value} {ds gs : List (DataW H)} {before : List MemPlace} {tb : TypeId}
    (hvars : s.vars = []) (hr : ∀ t ∈ f.params.toList, Tryd.prog.readableRec t = true ∧ t < Tryd.prog.types.size) (hres : f.resultTypes = #[tb]) (hbool : Tryd.prog.underlying tb = some .bool)
    (hfn : (s.fn H (ds ++ gs)).results = [.lit (.bool true)] ∧ (s.fn H (ds ++ gs)).args = ds ∧ (s.fn H (ds ++ gs)).vars = [])
    (hW : DataW.Whole enc Tryd.prog f.params.toList s.vars apart W args.toList ds gs before) (hb : Below W.heap.size W W') :
    s.post enc Tryd.prog f apart fresh handsOn false W args (.bool true) W' := by
  have hW' := hW
  have hlt := hW.lt
  obtain ⟨p, q, hA, hV, rfl, hfz, hnd⟩ := hW
  refine ⟨ds, gs, _, [], p, [], hW', ?_, ?_, ?_, hb.frame _, fun h => by cases h⟩
  · rw [hfn.1, hres]
    exact trodAll_mk1 (shut_bool hbool true)
  · rw [hfn.2.1]
    exact trodAll_below hb _ _ _ _ hr hA (fun x hx => hlt x (List.mem_append_left _ hx))
  · rw [hfn.2.2, hvars]
    rfl
theorem tab_of_vars {P : Program} {W : World} {name : String} {k : IntKind} {zs : List Int} {rest : List (String × DataW Unit)} {ps : List MemPlace} {g : Nat} {t e : TypeId} {n : Nat}
    (hg : P.globalNamed name = some g) (hty : (P.globals[g]?).map (·.type) = some t) (ht : P.underlying t = some (.array n e)) (he : P.underlying e = some (.int k)) (hce : P.cellsOf e = 1) (hct : P.cellsOf t = n)
    (h : DataW.LaidVars P W ((name, Lib.tabData k zs) :: rest) ps) : Lib.TabIs P W name k zs := by
  obtain ⟨g', t', cs, fuel, p, q, hg', ht', hvar, hd, _⟩ := h
  obtain rfl := Option.some.inj (hg.symm.trans hg')
  obtain rfl := Option.some.inj (hty.symm.trans ht')
  unfold Lib.TabIs
  rw [hvar, ← Lib.cells_of_tab ht he hce hct hd]
end Go.Proofs.YtdmlgligljagoaaDoor

set_option linter.unusedVariables false
set_option linter.unusedSimpArgs false
namespace Go.Proofs.YtdmlgligljagoaaDoor
open Go.RowKit Go.ChangeShapes Go.WideShapes Go.Deep Go.Proofs.YtdmlgligljagoaaDoorW.PrintWords PS
theorem rdQ_get (l : List S57) (i : Nat) (h : i < l.length) : zaf l (i : Int) = l[i]'h := by unfold zaf; simp [h]
theorem bulk_app {H : Type} (a b : List (DataW H)) : Rows.uptoBulkAll (a ++ b) = Rows.uptoBulkAll a + Rows.uptoBulkAll b := by
  induction a with
  | nil => simp [Rows.uptoBulkAll]
  | cons x r ih => rw [List.cons_append, Rows.uptoBulkAll, Rows.uptoBulkAll, ih]; omega
section
variable {H : Type} {enc : TypeId × Value → H} {w : World} {base : Nat} {spare : Nat → Bool} {held : Bool}
theorem open_rowsB {α : Type} (d : Kd α) {t e : TypeId} {fuel : Nat} {cs : List Value} {x : DataW H × List MemPlace} (ht : Tryd.prog.underlying t = some (.slice e)) (hC : Tryd.prog.cellsOf e = d.sz) (Q : α → Prop) (wt : α → Nat)
    (hel : ∀ n cs' y, DataW.trod enc Tryd.prog w base spare held n e cs' = some y → ∃ a, d.K w a cs' ∧ Q a ∧ wt a ≤ Rows.uptoBulk y.1)
    (h : DataW.trod enc Tryd.prog w base spare held fuel t cs = some x) :
    ∃ (A : Option Addr) (c : Nat) (l : List α), cs = [.slice A l.length c] ∧ l.length ≤ c ∧ d.C w A l.length l ∧ (l.map wt).sum + 1 ≤ Rows.uptoBulk x.1 ∧ ∀ a ∈ l, Q a := by
  rcases open_slice ht h with ⟨hcs, rfl⟩ | ⟨a, len, cap, m, n, D, Pl, hcs, hb, hl, hm, hmm, hx, hi⟩
  · exact ⟨none, 0, [], hcs, Nat.le_refl _, ⟨rfl, by simp, fun h => absurd h (by simp)⟩, by simp [Rows.uptoBulk], fun a ha => by cases ha⟩
  · subst hx
    have hlm : len ≤ m := by rw [hmm]; split <;> omega
    have key : ∀ i : Nat, ∃ p : Option α, i < len → ∃ q cs', p = some q ∧ d.K w q cs' ∧ Q q ∧ wt q ≤ Rows.uptoBulk (D i) ∧ cs'.length = d.sz ∧ ∀ j u, cs'[j]? = some u → w.cell? (a.add (i * d.sz + j)) = some u := fun i => by
      by_cases hlt : i < len
      · obtain ⟨cs', hc, ht'⟩ := hi i (by omega)
        obtain ⟨q, hk, hq, hwt⟩ := hel n cs' _ ht'
        obtain ⟨_, hcl, hat⟩ := World.cells?_some hc
        refine ⟨some q, fun _ => ⟨q, cs', rfl, hk, hq, hwt, by rw [hcl, hC], fun j u hu => ?_⟩⟩
        have hj : j < cs'.length := by
          rcases Nat.lt_or_ge j cs'.length with h | h
          · exact h
          · rw [List.getElem?_eq_none h] at hu; cases hu
        rw [← hC, ← Go.Deep.add_add, hat j (by omega), hu]
      · exact ⟨none, fun h => absurd h hlt⟩
    obtain ⟨f, hf⟩ := Classical.axiomOfChoice key
    have hall : ∀ k, k ≤ len → ((List.range k).filterMap f).length = k ∧ (((List.range k).filterMap f).map wt).sum ≤ Rows.uptoBulkAll ((List.range k).map D) ∧ ∀ i, i < k → ((List.range k).filterMap f)[i]? = f i := by
      intro k
      induction k with
      | zero => intro _; exact ⟨rfl, by simp, fun i hi => absurd hi (Nat.not_lt_zero _)⟩
      | succ k ih =>
        intro hk
        obtain ⟨h1, h3, h2⟩ := ih (by omega)
        obtain ⟨q, _, e, _, _, hwt, _⟩ := hf k (by omega)
        rw [List.range_succ, List.filterMap_append]
        have e1 : List.filterMap f [k] = [q] := by simp [e]
        rw [e1]
        refine ⟨by rw [List.length_append, h1]; rfl, ?_, fun i hi => ?_⟩
        · rw [List.map_append, List.sum_append, List.map_append, bulk_app]
          simp only [List.map_cons, List.map_nil, List.sum_cons, List.sum_nil, Rows.uptoBulkAll]
          omega
        · rcases Nat.lt_or_ge i k with h | h
          · rw [List.getElem?_append_left (by omega)]; exact h2 i h
          · obtain rfl : i = k := by omega
            rw [List.getElem?_append_right (by omega), h1, Nat.sub_self, e]; rfl
    have hlen := hall len (Nat.le_refl _)
    refine ⟨some a, cap, (List.range len).filterMap f, by rw [hlen.1]; exact hcs, by rw [hlen.1]; exact hl, ?_, ?_, ?_⟩
    · rw [hlen.1]
      refine ⟨hlen.1, by have : maxLen = 9223372036854775807 := rfl; omega, fun _ => ⟨a, rfl, fun j p hj => ?_⟩⟩
      have hjl : j < len := by
        rcases Nat.lt_or_ge j len with h | h
        · exact h
        · rw [List.getElem?_eq_none (by rw [hlen.1]; exact h)] at hj; cases hj
      rw [hlen.2.2 j hjl] at hj
      obtain ⟨q, cs', e, hk, hq, _, hcl, hat⟩ := hf j hjl
      rw [e] at hj
      cases hj
      exact ⟨cs', hcl, hk, hat⟩
    · have := hlen.2.1
      simp only [Rows.uptoBulk]
      omega
    · intro z hz
      obtain ⟨i, hi, hzi⟩ := List.getElem_of_mem hz
      have hil : i < len := by rw [hlen.1] at hi; exact hi
      have h3 := hlen.2.2 i hil
      rw [List.getElem?_eq_getElem hi, hzi] at h3
      obtain ⟨q, cs', e, hk, hq, _⟩ := hf i hil
      rw [e] at h3
      cases h3
      exact hq
theorem open_textB {n : Nat} {v : Value} {y : DataW H × List MemPlace} (h : DataW.trod enc Tryd.prog w base spare held n 9 [v] = some y) : ∃ s : ByteArray, v = .string s ∧ s.size + 1 ≤ Rows.uptoBulk y.1 := by
  obtain ⟨s, e, rfl, _⟩ := DataW.trod_string Tryd.underlying9 h
  cases e
  refine ⟨s, rfl, ?_⟩
  simp only [Rows.uptoBulk]
  rw [Array.length_toList]
  exact Nat.le_refl _
theorem open_intB {n : Nat} {v : Value} {y : DataW H × List MemPlace} (h : DataW.trod enc Tryd.prog w base spare held n 3 [v] = some y) : ∃ z : Int, v = .int .i64 z ∧ I64 z ∧ 1 ≤ Rows.uptoBulk y.1 := by
  obtain ⟨z, e, rfl, hz⟩ := DataW.trod_int Tryd.underlying3 h
  cases e
  exact ⟨z, rfl, I64_of_wf hz, by simp [Rows.uptoBulk]⟩
theorem open_int64B {n : Nat} {v : Value} {y : DataW H × List MemPlace} (h : DataW.trod enc Tryd.prog w base spare held n 2 [v] = some y) : ∃ z : Int, v = .int .i64 z ∧ I64 z ∧ 1 ≤ Rows.uptoBulk y.1 := by
  obtain ⟨z, e, rfl, hz⟩ := DataW.trod_int Tryd.underlying2 h
  cases e
  exact ⟨z, rfl, I64_of_wf hz, by simp [Rows.uptoBulk]⟩
def wP2 (p : S38) : Nat := p.f0.size + p.f1.size + 3
set_option maxRecDepth 100000 in
theorem open_pairB {n : Nat} {cs : List Value} {y : DataW H × List MemPlace} (h : DataW.trod enc Tryd.prog w base spare held n 38 cs = some y) : ∃ p : S38, k38.K w p cs ∧ True ∧ wP2 p ≤ Rows.uptoBulk y.1 := by
  have hC : Tryd.prog.cellsOf 38 = 2 := by kernel_rfl
  obtain ⟨ys, m, _, hx, hcl, hlen, hg⟩ := DataW.trod_struct Tryd.underlying38 h
  have k0 : Tryd.prog.cellsOf 9 = 1 := by kernel_rfl
  match cs, hcl.trans hC, ys, hlen with
  | [c0, c1], _, [y0, y1], _ =>
    subst hx
    have g0 : DataW.trod enc Tryd.prog w base spare held m 9 [c0] = some y0 := by simpa [k0] using hg 0 _ rfl
    have g1 : DataW.trod enc Tryd.prog w base spare held m 9 [c1] = some y1 := by simpa [k0] using hg 1 _ rfl
    obtain ⟨a, rfl, ha⟩ := open_textB g0
    obtain ⟨b, rfl, hb⟩ := open_textB g1
    refine ⟨⟨a, b⟩, k38_mk w ⟨a, b⟩, trivial, ?_⟩
    simp only [Rows.uptoBulk, Rows.uptoBulkAll, List.map_cons, List.map_nil, wP2]
    omega
def wS (s : S55) : Nat := s.f1.size + s.f2.size + s.f3.size + (s.f4.map wP2).sum + s.f7.length + 9
def wC (c : S57) : Nat := wS c.f3 + c.f4.size + 5
def StIn (s : S55) : Prop := I64 s.f0 ∧ I64 s.f5 ∧ I64 s.f6 ∧ ∀ x ∈ s.f7, I64 x
def CmIn (c : S57) : Prop := I64 c.f0 ∧ I64 c.f1 ∧ I64 c.f2 ∧ StIn c.f3
theorem sum_ones {α : Type} (l : List α) : (l.map fun _ => 1).sum = l.length := by induction l with | nil => rfl | cons _ r ih => simp [ih]; omega
set_option maxRecDepth 100000 in
set_option maxHeartbeats 1000000 in
theorem open_stepB {n : Nat} {cs : List Value} {y : DataW H × List MemPlace} (h : DataW.trod enc Tryd.prog w base spare held n 55 cs = some y) : ∃ s : S55, k55.K w s cs ∧ StIn s ∧ wS s ≤ Rows.uptoBulk y.1 := by
  have hC : Tryd.prog.cellsOf 55 = 8 := by kernel_rfl
  obtain ⟨ys, m, _, hx, hcl, hlen, hg⟩ := DataW.trod_struct Tryd.underlying55 h
  have k0 : Tryd.prog.cellsOf 9 = 1 := by kernel_rfl
  have k1 : Tryd.prog.cellsOf 3 = 1 := by kernel_rfl
  have k2 : Tryd.prog.cellsOf 2 = 1 := by kernel_rfl
  have k3 : Tryd.prog.cellsOf 31 = 1 := by kernel_rfl
  have k4 : Tryd.prog.cellsOf 32 = 1 := by kernel_rfl
  match cs, hcl.trans hC, ys, hlen with
  | [c0, c1, c2, c3, c4, c5, c6, c7], _, [y0, y1, y2, y3, y4, y5, y6, y7], _ =>
    subst hx
    have g0 : DataW.trod enc Tryd.prog w base spare held m 3 [c0] = some y0 := by simpa [k1] using hg 0 _ rfl
    have g1 : DataW.trod enc Tryd.prog w base spare held m 9 [c1] = some y1 := by simpa [k0] using hg 1 _ rfl
    have g2 : DataW.trod enc Tryd.prog w base spare held m 9 [c2] = some y2 := by simpa [k0] using hg 2 _ rfl
    have g3 : DataW.trod enc Tryd.prog w base spare held m 9 [c3] = some y3 := by simpa [k0] using hg 3 _ rfl
    have g4 : DataW.trod enc Tryd.prog w base spare held m 31 [c4] = some y4 := by simpa [k3] using hg 4 _ rfl
    have g5 : DataW.trod enc Tryd.prog w base spare held m 2 [c5] = some y5 := by simpa [k2] using hg 5 _ rfl
    have g6 : DataW.trod enc Tryd.prog w base spare held m 3 [c6] = some y6 := by simpa [k1] using hg 6 _ rfl
    have g7 : DataW.trod enc Tryd.prog w base spare held m 32 [c7] = some y7 := by simpa [k4] using hg 7 _ rfl
    obtain ⟨z0, rfl, i0, b0⟩ := open_intB g0
    obtain ⟨s1, rfl, b1⟩ := open_textB g1
    obtain ⟨s2, rfl, b2⟩ := open_textB g2
    obtain ⟨s3, rfl, b3⟩ := open_textB g3
    obtain ⟨A4, c4', l4, e4, n4, r4, b4, q4⟩ := open_rowsB k38 Tryd.underlying31 (by kernel_rfl) (fun _ => True) wP2 (fun n cs' y h => open_pairB h) g4
    obtain ⟨z5, rfl, i5, b5⟩ := open_int64B g5
    obtain ⟨z6, rfl, i6, b6⟩ := open_intB g6
    obtain ⟨A7, c7', l7, e7, n7, r7, b7, q7⟩ := open_rowsB (Kd.int .i64) Tryd.underlying32 (by kernel_rfl) I64 (fun _ => 1) (fun n cs' y h => by
      have hl := DataW.trod_int Tryd.underlying3 h
      obtain ⟨z, e, rfl, hz⟩ := hl
      exact ⟨z, e, I64_of_wf hz, by simp [Rows.uptoBulk]⟩) g7
    cases e4
    cases e7
    refine ⟨⟨z0, s1, s2, s3, l4, z5, z6, l7⟩, k55_mk w ⟨z0, s1, s2, s3, l4, z5, z6, l7⟩ n4 r4 n7 r7, ⟨i0, i5, i6, q7⟩, ?_⟩
    rw [sum_ones] at b7
    simp only [Rows.uptoBulk, Rows.uptoBulkAll, List.map_cons, List.map_nil, wS]
    omega
set_option maxRecDepth 100000 in
set_option maxHeartbeats 1000000 in
theorem open_cmdB {n : Nat} {cs : List Value} {y : DataW H × List MemPlace} (h : DataW.trod enc Tryd.prog w base spare held n 57 cs = some y) : ∃ c : S57, k57.K w c cs ∧ CmIn c ∧ wC c ≤ Rows.uptoBulk y.1 := by
  have hC : Tryd.prog.cellsOf 57 = 12 := by kernel_rfl
  obtain ⟨ys, m, _, hx, hcl, hlen, hg⟩ := DataW.trod_struct Tryd.underlying57 h
  have k0 : Tryd.prog.cellsOf 9 = 1 := by kernel_rfl
  have k1 : Tryd.prog.cellsOf 3 = 1 := by kernel_rfl
  have k2 : Tryd.prog.cellsOf 55 = 8 := by kernel_rfl
  match cs, hcl.trans hC, ys, hlen with
  | [c0, c1, c2, c3, c4, c5, c6, c7, c8, c9, c10, c11], _, [y0, y1, y2, y3, y4], _ =>
    subst hx
    have g0 : DataW.trod enc Tryd.prog w base spare held m 3 [c0] = some y0 := by simpa [k1] using hg 0 _ rfl
    have g1 : DataW.trod enc Tryd.prog w base spare held m 3 [c1] = some y1 := by simpa [k1] using hg 1 _ rfl
    have g2 : DataW.trod enc Tryd.prog w base spare held m 3 [c2] = some y2 := by simpa [k1] using hg 2 _ rfl
    have g3 : DataW.trod enc Tryd.prog w base spare held m 55 [c3, c4, c5, c6, c7, c8, c9, c10] = some y3 := by simpa [k2] using hg 3 _ rfl
    have g4 : DataW.trod enc Tryd.prog w base spare held m 9 [c11] = some y4 := by simpa [k0] using hg 4 _ rfl
    obtain ⟨z0, rfl, i0, b0⟩ := open_intB g0
    obtain ⟨z1, rfl, i1, b1⟩ := open_intB g1
    obtain ⟨z2, rfl, i2, b2⟩ := open_intB g2
    obtain ⟨s, hK, hS, b3⟩ := open_stepB g3
    obtain ⟨t4, rfl, b4⟩ := open_textB g4
    refine ⟨⟨z0, z1, z2, s, t4⟩, ?_, ⟨i0, i1, i2, hS⟩, ?_⟩
    · obtain ⟨A4, a4, A7, a7, e, n4, r4, n7, r7⟩ := k55_open hK
      cases e
      exact k57_mk w ⟨z0, z1, z2, s, t4⟩ n4 r4 n7 r7
    · simp only [Rows.uptoBulk, Rows.uptoBulkAll, List.map_cons, List.map_nil, wC]
      omega
set_option maxRecDepth 100000 in
/-- the argument -/
theorem open_cmds {r : Reach} {b0 : Nat} {v : Value} {d : DataW H} {p : List MemPlace} (hv : Value.okWide Tryd.prog w r b0 22 v) (h : DataW.Trod enc Tryd.prog w base spare held 22 v d p) :
    ∃ (A : Option Addr) (c : Nat) (l : List S57), v = .slice A l.length c ∧ l.length ≤ c ∧ Kd.C k57 w A l.length l ∧ (l.map wC).sum + 1 ≤ Rows.uptoBulk d ∧ ∀ x ∈ l, CmIn x := by
  obtain ⟨a, n, m, rfl⟩ := okWide_slice Tryd.underlying22 hv
  obtain ⟨fuel, hf⟩ := h
  obtain ⟨A, c, l, e, r⟩ := open_rowsB k57 Tryd.underlying22 (by kernel_rfl) CmIn wC (fun n cs' y h => open_cmdB h) hf
  have e2 : [Value.slice a n m] = [.slice A l.length c] := e
  cases e2
  exact ⟨_, _, l, rfl, r⟩
end
end Go.Proofs.YtdmlgligljagoaaDoor

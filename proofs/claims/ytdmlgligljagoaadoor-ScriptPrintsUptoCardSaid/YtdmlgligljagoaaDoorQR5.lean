/- The machine side of some functions, printed for this claim: each function has the answers of a plain one.
Plain law: commands told as the document's.
Plain law: the given commands without their marks; what is written over.
What a row says of a number: it is one of its kind.
What a law's contract gives its row: true is told, and what came in reads as it did.
What comes in: a list of the document's commands, opened to a row; what the narrowed form's bound says of their sizes.
Plain law: what the narrowed form's bound says of a printed text; the commands as they are given; what the law on going there and back needs.
Plain law: what is no number in its one form is refused.
Plain law: what the document gives: the first answers.
Walk: what the document gives, the first answers, by contracts.
Contracts of the seat's functions, as the laws' walks take them.
Walk: what was given stays, the marks too.
Worlds: a list of commands that Parse told, whose own lists are written over and grown, one element at a time; what was told later stays.
Plain law: a list of commands written over element by element: what each element's lists are.
Plain law: given commands written over, one element at a time; what their print may take. -/
import Derived.Test.YtdmlgligljagoaaDoorProg
import Derived.WalkKit
import Derived.ProofKit
import Derived.OpenShut
import Derived.ShutString
import Derived.Deep.DeepHandedRow
import Derived.Lib.LaidTab
import Derived.Test.YtdmlgligljagoaaDoorRows
import Derived.Deep.Slices
import Derived.Deep.Fields
import Derived.ChangeSame
import Derived.SizedLaws
import Derived.Test.YtdmlgligljagoaaDoorQR4
namespace Go.Proofs.YtdmlgligljagoaaDoor.PS
open Go.RowKit Go.Proofs.YtdmlgligljagoaaDoorW.PrintWords Go.Proofs.YtdmlgligljagoaaDoorW.PrintLast Go.Proofs.YtdmlgligljagoaaDoorW.PrintMore
attribute [local go_sem] zbg zbh max_two min_two zbe zbf zbi zbj   -- for this text's walks alone
set_option linter.unusedVariables false
set_option linter.unusedSimpArgs false

/-! ### cofferlaw22_told: function 15 -/
def cofferlaw22_told.l0 : Nat → List (S36) → List (S57) → Int → Option ((List (S57)))
 | 0, _, _, _ => none
 | k + 1, x0, x3, x4 => if x4 < (x0.length : Int) then (if 0 ≤ x4 then (if ([] : List (S38)).length + ((zaf x0 x4).f3.f4).length < 4398046511104 then (if ([] : List Int).length + ((zaf x0 x4).f3.f7).length < 17592186044416 then (if x3.length < 879609302220 then (cofferlaw22_told.l0 k x0 (x3 ++ [(⟨(zaf x0 x4).f0, (zaf x0 x4).f1, (zaf x0 x4).f2, (⟨(zaf x0 x4).f3.f0, (zaf x0 x4).f3.f1, (zaf x0 x4).f3.f2, (zaf x0 x4).f3.f3, (([] : List (S38)) ++ ((zaf x0 x4).f3.f4)), (zaf x0 x4).f3.f5, (zaf x0 x4).f3.f6, (([] : List Int) ++ ((zaf x0 x4).f3.f7))⟩ : S55), (zaf x0 x4).f4⟩ : S57)]) (wrap64 (x4 + 1))) else (none)) else (none)) else (none)) else (none)) else (some x3)
def cofferlaw22_told.f (k : Nat) (l0 : List (S36)) : Option ((List (S57))) := cofferlaw22_told.l0 k l0 ([] : List (S57)) 0
def cofferlaw22_told.T6 : Bool × List (List Nat × List Nat) := (true, [([], []), ([0], [0]), ([], []), ([2], [2]), ([], []), ([4], [4]), ([], []), ([6], [6]), ([], []), ([8], [8]), ([9], [9]), ([], []), ([11], [11]), ([], []), ([13], [13]), ([], []), ([15], [15]), ([16, 10], [16]), ([1, 3, 5, 7, 10, 12, 14, 17], [1, 3, 5, 7, 10, 12, 14, 17]), ([], []), ([19, 18, 17, 0, 1, 2, 3, 4, 5, 6, 7, 8, 9, 10, 11, 12, 13, 14, 15, 16, 17, 18, 19], [18, 19])])
def cofferlaw22_told.B6 : List Nat := [0, 1, 0, 4, 0, 16, 0, 64, 0, 256, 768, 0, 2048, 0, 8192, 0, 32768, 100096, 262143, 0, 1048575]
theorem cofferlaw22_told.tab6 : rtab .any (opsOf Tryd.f15 6) = cofferlaw22_told.T6 := by kernel_rfl
theorem cofferlaw22_told.bits6 : waitsOk cofferlaw22_told.T6.2 cofferlaw22_told.B6 = true := by kernel_rfl
def cofferlaw22_told.T7 : Bool × List (List Nat × List Nat) := (true, [([], []), ([], []), ([], []), ([1, 2], [1, 2]), ([3], [3]), ([4], [4]), ([], []), ([], []), ([6, 7], [6, 7]), ([8], [8]), ([9], [9]), ([], []), ([], []), ([11, 12], [11, 12]), ([13], [13]), ([14], [14]), ([], []), ([], []), ([], []), ([17, 18], [17, 18]), ([19], [19]), ([20], [20]), ([5, 10, 15, 16, 21], [5, 10, 15, 16, 21]), ([22], [22]), ([0, 23], [0, 23]), ([24, 24, 0, 1, 2, 3, 4, 5, 6, 7, 8, 9, 10, 11, 12, 13, 14, 15, 16, 17, 18, 19, 20, 21, 22, 23, 24], [0, 24])])
def cofferlaw22_told.B7 : List Nat := [0, 0, 0, 6, 14, 30, 0, 0, 192, 448, 960, 0, 0, 6144, 14336, 30720, 0, 0, 0, 393216, 917504, 1966080, 4194302, 8388606, 16777215, 33554431]
theorem cofferlaw22_told.tab7 : rtab .any (opsOf Tryd.f15 7) = cofferlaw22_told.T7 := by kernel_rfl
theorem cofferlaw22_told.bits7 : waitsOk cofferlaw22_told.T7.2 cofferlaw22_told.B7 = true := by kernel_rfl
set_option maxHeartbeats 8000000 in
set_option maxRecDepth 100000 in
theorem cofferlaw22_told.calls (k : Nat) (A0 : Option Addr) (c0 : Nat) (l0 : List (S36)) (r : List (S57)) (w : World) (hr0 : Kd.C k36 w A0 l0.length l0) (hc0 : l0.length ≤ c0) (h : cofferlaw22_told.f k l0 = some r) :
  Calls Tryd.prog 15 #[.slice A0 l0.length c0] w fun e w' => ∃ v0_ : Value, e = .returned (v0_) ∧ Kd.S k57 57 w' w.heap.size (fun _ => True) v0_ r ∧ Below w.heap.size w w' := by
 have hu34 := Tryd.underlying34
 have hu55 := Tryd.underlying55
 have hu57 := Tryd.underlying57
 have HR0 := Aside0.mk hr0
 have HC0 := Aside0.mk hc0
 clear hr0 hc0
 have HB := Aside0.mk (Below.refl w.heap.size w)
 have H : (cofferlaw22_told.l0 k l0 ([] : List (S57)) 0) = some r := h
 clear h
 have H' := Aside0.mk H
 clear H
 go_enter Tryd.func15, Tryd.ntmps15
 go_wp2
 go_loopg [3, 4] k (fun kq v3 v4 w' => ∃ (x3_1 : List (S57)) (x4_1 : Int), v4 = .int .i64 x4_1 ∧ Aside0 (cofferlaw22_told.l0 kq l0 x3_1 x4_1 = some r) ∧ Aside0 (kq ≤ k) ∧ Aside0 (Kd.S k57 57 w' w.heap.size (fun _ => True) v3 x3_1) ∧ Aside0 (Below w.heap.size w w'))
 case atStart => exact ⟨(([] : List (S57))), (0), (by first | rfl | (simp; done) | (simp [*]; done)), H', ⟨Nat.le_refl _⟩, ⟨by first | exact Kd.S_nil _ _ _ _ _ | exact Kd.N_nil _ _ _ _ _ | exact Kd.V_nil _ _ _ _ _ | exact Kd.Q_nil _ _ _ _ _ | exact Kd.R_nil _ _ _ _ _⟩, ⟨by repeat with_reducible first | exact HB.out | apply zae | apply zac | apply zad⟩⟩
 case round =>
  clear H'
  try clear c1
  obtain ⟨x3_1, x4_1, rfl, HA, HK1, HO_3, HB⟩ := hrel
  cases gk with
  | zero => exact absurd HA.out (by simp [cofferlaw22_told.l0])
  | succ k1 =>
   have H := HA.out
   clear HA
   simp only [cofferlaw22_told.l0] at H
   by_cases c2 : x4_1 < (l0.length : Int)
   rotate_left
   ·
    rw [if_neg c2] at H
    have c2b0 : decide (x4_1 < (l0.length : Int)) = false := decide_eq_false c2
    clear c2
    obtain rfl := Option.some.inj H
    go_wp2
    go_ret
    exact ⟨_, by first | rfl | (simp [zam, zan] <;> rfl) | (simp [*, zam, zan] <;> rfl), by (with_reducible repeat (first | apply Kd.S_alloc | apply Kd.S_drewN | apply Kd.S_drew)); exact HO_3.out, by repeat with_reducible first | exact HB.out | apply zae | apply zac | apply zad⟩
   rw [if_pos c2] at H
   have c2b0 : decide (x4_1 < (l0.length : Int)) = true := decide_eq_true c2
   clear c2
   by_cases c3 : 0 ≤ x4_1
   rotate_left
   ·
    rw [if_neg c3] at H
    exact absurd H (by simp)
   rw [if_pos c3] at H
   have c3b0 : decide (0 ≤ x4_1) = true := decide_eq_true c3
   clear c3
   by_cases c4 : ([] : List (S38)).length + ((zaf l0 x4_1).f3.f4).length < 4398046511104
   rotate_left
   ·
    rw [if_neg c4] at H
    exact absurd H (by simp)
   rw [if_pos c4] at H
   have LMc4 := Aside0.mk c4
   clear c4
   obtain ⟨y169, hy169⟩ : ∃ y_ : List (S38), y_ = (([] : List (S38)) ++ ((zaf l0 x4_1).f3.f4)) := ⟨_, rfl⟩
   replace H : (if ([] : List Int).length + ((zaf l0 x4_1).f3.f7).length < 17592186044416 then (if x3_1.length < 879609302220 then (cofferlaw22_told.l0 k1 l0 (x3_1 ++ [(⟨(zaf l0 x4_1).f0, (zaf l0 x4_1).f1, (zaf l0 x4_1).f2, (⟨(zaf l0 x4_1).f3.f0, (zaf l0 x4_1).f3.f1, (zaf l0 x4_1).f3.f2, (zaf l0 x4_1).f3.f3, y169, (zaf l0 x4_1).f3.f5, (zaf l0 x4_1).f3.f6, (([] : List Int) ++ ((zaf l0 x4_1).f3.f7))⟩ : S55), (zaf l0 x4_1).f4⟩ : S57)]) (wrap64 (x4_1 + 1))) else (none)) else (none)) = some r := by first | (rw [hy169]; with_reducible exact H) | (have H2_ := (Option.bind_some _ _).symm.trans H; rw [hy169]; with_reducible exact H2_) | (have H2_ := (Option.bind_some _ _).symm.trans H; with_reducible exact H2_) | with_reducible exact H | (rw [hy169]; exact H) | exact H
   have Ny169 := Aside0.mk hy169
   clear hy169
   by_cases c5 : ([] : List Int).length + ((zaf l0 x4_1).f3.f7).length < 17592186044416
   rotate_left
   ·
    rw [if_neg c5] at H
    exact absurd H (by simp)
   rw [if_pos c5] at H
   have LMc5 := Aside0.mk c5
   clear c5
   obtain ⟨y172, hy172⟩ : ∃ y_ : List Int, y_ = (([] : List Int) ++ ((zaf l0 x4_1).f3.f7)) := ⟨_, rfl⟩
   replace H : (if x3_1.length < 879609302220 then (cofferlaw22_told.l0 k1 l0 (x3_1 ++ [(⟨(zaf l0 x4_1).f0, (zaf l0 x4_1).f1, (zaf l0 x4_1).f2, (⟨(zaf l0 x4_1).f3.f0, (zaf l0 x4_1).f3.f1, (zaf l0 x4_1).f3.f2, (zaf l0 x4_1).f3.f3, y169, (zaf l0 x4_1).f3.f5, (zaf l0 x4_1).f3.f6, y172⟩ : S55), (zaf l0 x4_1).f4⟩ : S57)]) (wrap64 (x4_1 + 1))) else (none)) = some r := by first | (rw [hy172]; with_reducible exact H) | (have H2_ := (Option.bind_some _ _).symm.trans H; rw [hy172]; with_reducible exact H2_) | (have H2_ := (Option.bind_some _ _).symm.trans H; with_reducible exact H2_) | with_reducible exact H | (rw [hy172]; exact H) | exact H
   have Ny172 := Aside0.mk hy172
   clear hy172
   by_cases c6 : x3_1.length < 879609302220
   rotate_left
   ·
    rw [if_neg c6] at H
    exact absurd H (by simp)
   rw [if_pos c6] at H
   have LMc6 := Aside0.mk c6
   clear c6
   obtain ⟨y180, hy180⟩ : ∃ y_ : List (S57), y_ = (x3_1 ++ [(⟨(zaf l0 x4_1).f0, (zaf l0 x4_1).f1, (zaf l0 x4_1).f2, (⟨(zaf l0 x4_1).f3.f0, (zaf l0 x4_1).f3.f1, (zaf l0 x4_1).f3.f2, (zaf l0 x4_1).f3.f3, y169, (zaf l0 x4_1).f3.f5, (zaf l0 x4_1).f3.f6, y172⟩ : S55), (zaf l0 x4_1).f4⟩ : S57)]) := ⟨_, rfl⟩
   replace H : (cofferlaw22_told.l0 k1 l0 y180 (wrap64 (x4_1 + 1))) = some r := by first | (rw [hy180]; with_reducible exact H) | (have H2_ := (Option.bind_some _ _).symm.trans H; rw [hy180]; with_reducible exact H2_) | (have H2_ := (Option.bind_some _ _).symm.trans H; with_reducible exact H2_) | with_reducible exact H | (rw [hy180]; exact H) | exact H
   have Ny180 := Aside0.mk hy180
   clear hy180
   have H' := Aside0.mk H
   clear H
   have p167 : 0 ≤ (x4_1 : Int) := of_decide_eq_true (by first | (with_reducible assumption) | assumption)
   have q167 : x4_1 < (l0.length : Int) := of_decide_eq_true (by first | (with_reducible assumption) | assumption)
   obtain ⟨ad167, A167_7, c167_7, A167_10, c167_10, e167, hx167_0, hx167_1, hx167_2, hx167_3, hx167_4, hx167_5, hx167_6, hx167_7, hx167_8, hx167_9, hx167_10, hx167_11, hl167_7, hi167_7, hl167_10, hi167_10⟩ := at_T36 HR0.out x4_1 p167 q167
   cases e167
   replace hx167_0 := co HB.out hx167_0
   replace hx167_1 := co HB.out hx167_1
   replace hx167_2 := co HB.out hx167_2
   replace hx167_3 := co HB.out hx167_3
   replace hx167_4 := co HB.out hx167_4
   replace hx167_5 := co HB.out hx167_5
   replace hx167_6 := co HB.out hx167_6
   replace hx167_7 := co HB.out hx167_7
   replace hx167_8 := co HB.out hx167_8
   replace hx167_9 := co HB.out hx167_9
   replace hx167_10 := co HB.out hx167_10
   replace hx167_11 := co HB.out hx167_11
   have HR167_7 := Aside0.mk hi167_7
   have HC167_7 := Aside0.mk hl167_7
   clear hi167_7 hl167_7
   have HR167_10 := Aside0.mk hi167_10
   have HC167_10 := Aside0.mk hl167_10
   clear hi167_10 hl167_10
   replace p167 := eq_true p167
   replace q167 := eq_true q167
   try go_wp2_with (first | ((with_reducible refine zbm (N := 5) rfl ?_); refine zbn ?hg (N := 5) ?hd (cs := #[.int .i64 0, .string (⟨#[]⟩ : ByteArray), .string (⟨#[]⟩ : ByteArray), .string (⟨#[]⟩ : ByteArray), .slice none 0 0, .int .i64 0, .int .i64 0, .slice none 0 0]) (t := 34) ?hr ?_; (case hd => rfl); (case hg => rfl); (case hr => first | (go_simp; done) | (go_simp; rfl)); intro gb168 hg w7 hbox hb; have n0_ := Aside0.mk (Kd.S_below (by (with_reducible repeat (first | apply Kd.S_alloc | apply Kd.S_drewN | apply Kd.S_drew)); exact HO_3.out) hb); have n1_ := Aside0.mk (zap (by repeat with_reducible first | exact HB.out | apply zae | apply zac | apply zad) hb); have n2_ := Aside0.mk (hbox); have n3_ := Aside0.mk ((by rw [hg]; exact (zal (by repeat with_reducible first | exact HB.out | apply zae | apply zac | apply zad)) : w.heap.size ≤ gb168)); have n4_ := Aside0.mk ((by rw [hg]; exact (zal (by repeat with_reducible first | exact HB.out | apply zae | apply zac | apply zad)) : w.heap.size ≤ gb168)); clear HO_3; clear HB; have HO_3 := n0_; have HB := n1_; have BK168 := n2_; have GW168 := n3_; have GE168 := n4_; clear n0_ n1_ n2_ n3_ n4_; clear hb hbox hg; have hcz8_0 : w7.cell? ⟨gb168, 0, none⟩ = some (.int .i64 0) := (zaa BK168.out 0).trans rfl; have hcz8_1 : w7.cell? ⟨gb168, 1, none⟩ = some (.string (⟨#[]⟩ : ByteArray)) := (zaa BK168.out 1).trans rfl; have hcz8_2 : w7.cell? ⟨gb168, 2, none⟩ = some (.string (⟨#[]⟩ : ByteArray)) := (zaa BK168.out 2).trans rfl; have hcz8_3 : w7.cell? ⟨gb168, 3, none⟩ = some (.string (⟨#[]⟩ : ByteArray)) := (zaa BK168.out 3).trans rfl; have hcz8_4 : w7.cell? ⟨gb168, 4, none⟩ = some (.slice none 0 0) := (zaa BK168.out 4).trans rfl; have hcz8_5 : w7.cell? ⟨gb168, 5, none⟩ = some (.int .i64 0) := (zaa BK168.out 5).trans rfl; have hcz8_6 : w7.cell? ⟨gb168, 6, none⟩ = some (.int .i64 0) := (zaa BK168.out 6).trans rfl; have hcz8_7 : w7.cell? ⟨gb168, 7, none⟩ = some (.slice none 0 0) := (zaa BK168.out 7).trans rfl; have hfz8_0 := zab BK168.out 0; have hfz8_1 := zab BK168.out 1; have hfz8_2 := zab BK168.out 2; have hfz8_3 := zab BK168.out 3; have hfz8_4 := zab BK168.out 4; have hfz8_5 := zab BK168.out 5; have hfz8_6 := zab BK168.out 6; have hfz8_7 := zab BK168.out 7))
   have n0_ : Aside0 (Kd.S k57 57 ((((((((w7.setCell ⟨gb168, 0, none⟩ (.int .i64 ((zaf l0 x4_1).f3.f0))).setCell ⟨gb168, 1, none⟩ (.string ((zaf l0 x4_1).f3.f1))).setCell ⟨gb168, 2, none⟩ (.string ((zaf l0 x4_1).f3.f2))).setCell ⟨gb168, 3, none⟩ (.string ((zaf l0 x4_1).f3.f3))).setCell ⟨gb168, 4, none⟩ (.slice A167_7 ((zaf l0 x4_1).f3.f4).length c167_7)).setCell ⟨gb168, 5, none⟩ (.int .i64 ((zaf l0 x4_1).f3.f5))).setCell ⟨gb168, 6, none⟩ (.int .i64 ((zaf l0 x4_1).f3.f6))).setCell ⟨gb168, 7, none⟩ (.slice A167_10 ((zaf l0 x4_1).f3.f7).length c167_10)) w.heap.size (fun _ => True) u3 x3_1) := ⟨by (with_reducible repeat (first | apply Kd.S_alloc | apply Kd.S_drewN | apply Kd.S_drew)); exact Kd.S_mono (Kd.S_far (p := ⟨gb168, 7, none⟩) (Kd.S_far (p := ⟨gb168, 6, none⟩) (Kd.S_far (p := ⟨gb168, 5, none⟩) (Kd.S_far (p := ⟨gb168, 4, none⟩) (Kd.S_far (p := ⟨gb168, 3, none⟩) (Kd.S_far (p := ⟨gb168, 2, none⟩) (Kd.S_far (p := ⟨gb168, 1, none⟩) (Kd.S_far (p := ⟨gb168, 0, none⟩) (Kd.S_types HO_3.out BK168.out (by decide)) (fun _ hk => hk.2) (.int .i64 ((zaf l0 x4_1).f3.f0))) (fun _ hk => hk.2) (.string ((zaf l0 x4_1).f3.f1))) (fun _ hk => hk.2) (.string ((zaf l0 x4_1).f3.f2))) (fun _ hk => hk.2) (.string ((zaf l0 x4_1).f3.f3))) (fun _ hk => hk.2) (.slice A167_7 ((zaf l0 x4_1).f3.f4).length c167_7)) (fun _ hk => hk.2) (.int .i64 ((zaf l0 x4_1).f3.f5))) (fun _ hk => hk.2) (.int .i64 ((zaf l0 x4_1).f3.f6))) (fun _ hk => hk.2) (.slice A167_10 ((zaf l0 x4_1).f3.f7).length c167_10)) (fun _ hk => trivial)⟩
   have n1_ : Aside0 (((((((((w7.setCell ⟨gb168, 0, none⟩ (.int .i64 ((zaf l0 x4_1).f3.f0))).setCell ⟨gb168, 1, none⟩ (.string ((zaf l0 x4_1).f3.f1))).setCell ⟨gb168, 2, none⟩ (.string ((zaf l0 x4_1).f3.f2))).setCell ⟨gb168, 3, none⟩ (.string ((zaf l0 x4_1).f3.f3))).setCell ⟨gb168, 4, none⟩ (.slice A167_7 ((zaf l0 x4_1).f3.f4).length c167_7)).setCell ⟨gb168, 5, none⟩ (.int .i64 ((zaf l0 x4_1).f3.f5))).setCell ⟨gb168, 6, none⟩ (.int .i64 ((zaf l0 x4_1).f3.f6))).setCell ⟨gb168, 7, none⟩ (.slice A167_10 ((zaf l0 x4_1).f3.f7).length c167_10)).heap[gb168]? = some (.cells #[.int .i64 ((zaf l0 x4_1).f3.f0), .string ((zaf l0 x4_1).f3.f1), .string ((zaf l0 x4_1).f3.f2), .string ((zaf l0 x4_1).f3.f3), .slice A167_7 ((zaf l0 x4_1).f3.f4).length c167_7, .int .i64 ((zaf l0 x4_1).f3.f5), .int .i64 ((zaf l0 x4_1).f3.f6), .slice A167_10 ((zaf l0 x4_1).f3.f7).length c167_10] 34 (0, 0))) := ⟨by (with_reducible repeat (first | refine zai ?_ _ | refine zaj ?_ | refine zag ?_ _)); refine zar (cs := #[.int .i64 ((zaf l0 x4_1).f3.f0), .string ((zaf l0 x4_1).f3.f1), .string ((zaf l0 x4_1).f3.f2), .string ((zaf l0 x4_1).f3.f3), .slice A167_7 ((zaf l0 x4_1).f3.f4).length c167_7, .int .i64 ((zaf l0 x4_1).f3.f5), .int .i64 ((zaf l0 x4_1).f3.f6), .slice none 0 0]) ?_ 7 _ rfl; (with_reducible repeat (first | refine zai ?_ _ | refine zaj ?_ | refine zag ?_ _)); refine zar (cs := #[.int .i64 ((zaf l0 x4_1).f3.f0), .string ((zaf l0 x4_1).f3.f1), .string ((zaf l0 x4_1).f3.f2), .string ((zaf l0 x4_1).f3.f3), .slice A167_7 ((zaf l0 x4_1).f3.f4).length c167_7, .int .i64 ((zaf l0 x4_1).f3.f5), .int .i64 0, .slice none 0 0]) ?_ 6 _ rfl; (with_reducible repeat (first | refine zai ?_ _ | refine zaj ?_ | refine zag ?_ _)); refine zar (cs := #[.int .i64 ((zaf l0 x4_1).f3.f0), .string ((zaf l0 x4_1).f3.f1), .string ((zaf l0 x4_1).f3.f2), .string ((zaf l0 x4_1).f3.f3), .slice A167_7 ((zaf l0 x4_1).f3.f4).length c167_7, .int .i64 0, .int .i64 0, .slice none 0 0]) ?_ 5 _ rfl; (with_reducible repeat (first | refine zai ?_ _ | refine zaj ?_ | refine zag ?_ _)); refine zar (cs := #[.int .i64 ((zaf l0 x4_1).f3.f0), .string ((zaf l0 x4_1).f3.f1), .string ((zaf l0 x4_1).f3.f2), .string ((zaf l0 x4_1).f3.f3), .slice none 0 0, .int .i64 0, .int .i64 0, .slice none 0 0]) ?_ 4 _ rfl; (with_reducible repeat (first | refine zai ?_ _ | refine zaj ?_ | refine zag ?_ _)); refine zar (cs := #[.int .i64 ((zaf l0 x4_1).f3.f0), .string ((zaf l0 x4_1).f3.f1), .string ((zaf l0 x4_1).f3.f2), .string (⟨#[]⟩ : ByteArray), .slice none 0 0, .int .i64 0, .int .i64 0, .slice none 0 0]) ?_ 3 _ rfl; (with_reducible repeat (first | refine zai ?_ _ | refine zaj ?_ | refine zag ?_ _)); refine zar (cs := #[.int .i64 ((zaf l0 x4_1).f3.f0), .string ((zaf l0 x4_1).f3.f1), .string (⟨#[]⟩ : ByteArray), .string (⟨#[]⟩ : ByteArray), .slice none 0 0, .int .i64 0, .int .i64 0, .slice none 0 0]) ?_ 2 _ rfl; (with_reducible repeat (first | refine zai ?_ _ | refine zaj ?_ | refine zag ?_ _)); refine zar (cs := #[.int .i64 ((zaf l0 x4_1).f3.f0), .string (⟨#[]⟩ : ByteArray), .string (⟨#[]⟩ : ByteArray), .string (⟨#[]⟩ : ByteArray), .slice none 0 0, .int .i64 0, .int .i64 0, .slice none 0 0]) ?_ 1 _ rfl; (with_reducible repeat (first | refine zai ?_ _ | refine zaj ?_ | refine zag ?_ _)); refine zar (cs := #[.int .i64 0, .string (⟨#[]⟩ : ByteArray), .string (⟨#[]⟩ : ByteArray), .string (⟨#[]⟩ : ByteArray), .slice none 0 0, .int .i64 0, .int .i64 0, .slice none 0 0]) ?_ 0 _ rfl; (with_reducible repeat (first | refine zai ?_ _ | refine zaj ?_ | refine zag ?_ _)); exact BK168.out⟩
   have n2_ : Aside0 (Below w.heap.size w ((((((((w7.setCell ⟨gb168, 0, none⟩ (.int .i64 ((zaf l0 x4_1).f3.f0))).setCell ⟨gb168, 1, none⟩ (.string ((zaf l0 x4_1).f3.f1))).setCell ⟨gb168, 2, none⟩ (.string ((zaf l0 x4_1).f3.f2))).setCell ⟨gb168, 3, none⟩ (.string ((zaf l0 x4_1).f3.f3))).setCell ⟨gb168, 4, none⟩ (.slice A167_7 ((zaf l0 x4_1).f3.f4).length c167_7)).setCell ⟨gb168, 5, none⟩ (.int .i64 ((zaf l0 x4_1).f3.f5))).setCell ⟨gb168, 6, none⟩ (.int .i64 ((zaf l0 x4_1).f3.f6))).setCell ⟨gb168, 7, none⟩ (.slice A167_10 ((zaf l0 x4_1).f3.f7).length c167_10))) := ⟨by repeat with_reducible first | exact HB.out | apply zae | apply zac | apply zad | refine zah ?_ GE168.out⟩
   (try clear HO_3)
   (try clear BK168)
   (try clear HB)
   generalize ((((((((w7.setCell ⟨gb168, 0, none⟩ (.int .i64 ((zaf l0 x4_1).f3.f0))).setCell ⟨gb168, 1, none⟩ (.string ((zaf l0 x4_1).f3.f1))).setCell ⟨gb168, 2, none⟩ (.string ((zaf l0 x4_1).f3.f2))).setCell ⟨gb168, 3, none⟩ (.string ((zaf l0 x4_1).f3.f3))).setCell ⟨gb168, 4, none⟩ (.slice A167_7 ((zaf l0 x4_1).f3.f4).length c167_7)).setCell ⟨gb168, 5, none⟩ (.int .i64 ((zaf l0 x4_1).f3.f5))).setCell ⟨gb168, 6, none⟩ (.int .i64 ((zaf l0 x4_1).f3.f6))).setCell ⟨gb168, 7, none⟩ (.slice A167_10 ((zaf l0 x4_1).f3.f7).length c167_10)) = w9 at n0_ n1_ n2_ ⊢
   have HO_3 := n0_
   have BK168 := n1_
   have HB := n2_
   clear n0_ n1_ n2_
   have n0_ := Aside0.mk (Kd.S_drew HO_3.out)
   have n1_ := Aside0.mk (zaj BK168.out)
   have n2_ := Aside0.mk (zad HB.out)
   clear HO_3
   clear BK168
   clear HB
   have HO_3 := n0_
   have BK168 := n1_
   have HB := n2_
   clear n0_ n1_ n2_
   refine start_ (n := 21) (S := fun w' => w'.cell? ⟨gb168, 0, none⟩ = some (.int .i64 ((zaf l0 x4_1).f3.f0)) ∧ w'.cell? ⟨gb168, 1, none⟩ = some (.string ((zaf l0 x4_1).f3.f1)) ∧ w'.cell? ⟨gb168, 2, none⟩ = some (.string ((zaf l0 x4_1).f3.f2)) ∧ w'.cell? ⟨gb168, 3, none⟩ = some (.string ((zaf l0 x4_1).f3.f3)) ∧ w'.cell? ⟨gb168, 4, none⟩ = some (.slice A167_7 ((zaf l0 x4_1).f3.f4).length c167_7) ∧ w'.cell? ⟨gb168, 5, none⟩ = some (.int .i64 ((zaf l0 x4_1).f3.f5)) ∧ w'.cell? ⟨gb168, 6, none⟩ = some (.int .i64 ((zaf l0 x4_1).f3.f6)) ∧ w'.cell? ⟨gb168, 7, none⟩ = some (.slice A167_10 ((zaf l0 x4_1).f3.f7).length c167_10)) (ds := []) #[false, false, false, false, false, false, false, false, false, false, false, false, false, false, false, false, false, false, false, false, false] (by kernel_rfl) rfl rfl ⟨(zaa BK168.out 0).trans rfl, (zaa BK168.out 1).trans rfl, (zaa BK168.out 2).trans rfl, (zaa BK168.out 3).trans rfl, (zaa BK168.out 4).trans rfl, (zaa BK168.out 5).trans rfl, (zaa BK168.out 6).trans rfl, (zaa BK168.out 7).trans rfl⟩ (fun hHeld => ?_); refine zbp cofferlaw22_told.tab6 cofferlaw22_told.bits6 (fun HT_ HW_ => ?_)
   generalize w9.drew = w10 at HO_3 BK168 HB hHeld ⊢
   refine pure_ (i := 0) (N := some 18) (v := ?_) (a' := ?_) (tm 21 1) rfl rfl (zak HT_.out (by kernel_rfl)) (fun _ _ _ h => h) (Or.inl ⟨by rfl, ?_⟩) ?_ ?_
   rotate_left
   ·
    intro w'
    go_simp
    with_reducible rfl
   rotate_left
   ·
    simp only [aw]
    rfl
   refine pure_ (i := 2) (N := some 20) (v := ?_) (a' := ?_) (tm 21 5) rfl rfl (zak HT_.out (by kernel_rfl)) (fun _ _ _ h => h) (Or.inl ⟨by rfl, ?_⟩) ?_ ?_
   rotate_left
   ·
    intro w'
    go_simp
    with_reducible rfl
   rotate_left
   ·
    simp only [aw]
    rfl
   refine pure_ (i := 4) (N := some 22) (v := ?_) (a' := ?_) (tm 21 21) rfl rfl (zak HT_.out (by kernel_rfl)) (fun _ _ _ h => h) (Or.inl ⟨by rfl, ?_⟩) ?_ ?_
   rotate_left
   ·
    intro w'
    go_simp
    with_reducible rfl
   rotate_left
   ·
    simp only [aw]
    rfl
   refine pure_ (i := 6) (N := some 24) (v := ?_) (a' := ?_) (tm 21 85) rfl rfl (zak HT_.out (by kernel_rfl)) (fun _ _ _ h => h) (Or.inl ⟨by rfl, ?_⟩) ?_ ?_
   rotate_left
   ·
    intro w'
    go_simp
    with_reducible rfl
   rotate_left
   ·
    simp only [aw]
    rfl
   refine pure_ (i := 8) (N := some 26) (v := ?_) (a' := ?_) (tm 21 341) rfl rfl (zak HT_.out (by kernel_rfl)) (fun _ _ _ h => h) (Or.inl ⟨by rfl, ?_⟩) ?_ ?_
   rotate_left
   ·
    intro w'
    go_simp
    with_reducible rfl
   rotate_left
   ·
    simp only [aw]
    rfl
   refine pure_ (i := 11) (N := some 29) (v := ?_) (a' := ?_) (tm 21 2389) rfl rfl (zak HT_.out (by kernel_rfl)) (fun _ _ _ h => h) (Or.inl ⟨by rfl, ?_⟩) ?_ ?_
   rotate_left
   ·
    intro w'
    go_simp
    with_reducible rfl
   rotate_left
   ·
    simp only [aw]
    rfl
   refine pure_ (i := 13) (N := some 31) (v := ?_) (a' := ?_) (tm 21 10581) rfl rfl (zak HT_.out (by kernel_rfl)) (fun _ _ _ h => h) (Or.inl ⟨by rfl, ?_⟩) ?_ ?_
   rotate_left
   ·
    intro w'
    go_simp
    with_reducible rfl
   rotate_left
   ·
    simp only [aw]
    rfl
   refine pure_ (i := 15) (N := some 33) (v := ?_) (a' := ?_) (tm 21 43349) rfl rfl (zak HT_.out (by kernel_rfl)) (fun _ _ _ h => h) (Or.inl ⟨by rfl, ?_⟩) ?_ ?_
   rotate_left
   ·
    intro w'
    go_simp
    with_reducible rfl
   rotate_left
   ·
    simp only [aw]
    rfl
   refine take_ (i := 1) (N := some 19) (v := ?_) (a' := ?_) #[true, true, true, false, true, false, true, false, true, false, false, true, false, true, false, true, false, false, false, false, false] rfl rfl (zat HT_.out HW_.out (by kernel_rfl)) (fun _ _ _ h => h) (Or.inl ⟨by rfl, ?_⟩) hHeld ?_ ?_
   rotate_left
   ·
    rintro w' ⟨s0, s1, s2, s3, s4, s5, s6, s7⟩
    go_simp
    with_reducible rfl
   rotate_left
   ·
    simp only [aw]
    rfl
   refine take_ (i := 3) (N := some 21) (v := ?_) (a' := ?_) #[true, true, true, true, true, false, true, false, true, false, false, true, false, true, false, true, false, false, false, false, false] rfl rfl (zat HT_.out HW_.out (by kernel_rfl)) (fun _ _ _ h => h) (Or.inl ⟨by rfl, ?_⟩) hHeld ?_ ?_
   rotate_left
   ·
    rintro w' ⟨s0, s1, s2, s3, s4, s5, s6, s7⟩
    go_simp
    with_reducible rfl
   rotate_left
   ·
    simp only [aw]
    rfl
   refine take_ (i := 5) (N := some 23) (v := ?_) (a' := ?_) #[true, true, true, true, true, true, true, false, true, false, false, true, false, true, false, true, false, false, false, false, false] rfl rfl (zat HT_.out HW_.out (by kernel_rfl)) (fun _ _ _ h => h) (Or.inl ⟨by rfl, ?_⟩) hHeld ?_ ?_
   rotate_left
   ·
    rintro w' ⟨s0, s1, s2, s3, s4, s5, s6, s7⟩
    go_simp
    with_reducible rfl
   rotate_left
   ·
    simp only [aw]
    rfl
   refine take_ (i := 7) (N := some 25) (v := ?_) (a' := ?_) #[true, true, true, true, true, true, true, true, true, false, false, true, false, true, false, true, false, false, false, false, false] rfl rfl (zat HT_.out HW_.out (by kernel_rfl)) (fun _ _ _ h => h) (Or.inl ⟨by rfl, ?_⟩) hHeld ?_ ?_
   rotate_left
   ·
    rintro w' ⟨s0, s1, s2, s3, s4, s5, s6, s7⟩
    go_simp
    with_reducible rfl
   rotate_left
   ·
    simp only [aw]
    rfl
   refine take_ (i := 9) (N := some 27) (v := ?_) (a' := ?_) #[true, true, true, true, true, true, true, true, true, true, false, true, false, true, false, true, false, false, false, false, false] rfl rfl (zat HT_.out HW_.out (by kernel_rfl)) (fun _ _ _ h => h) (Or.inl ⟨by rfl, ?_⟩) hHeld ?_ ?_
   rotate_left
   ·
    rintro w' ⟨s0, s1, s2, s3, s4, s5, s6, s7⟩
    go_simp
    with_reducible rfl
   rotate_left
   ·
    simp only [aw]
    rfl
   refine take_ (i := 12) (N := some 30) (v := ?_) (a' := ?_) #[true, true, true, true, true, true, true, true, true, true, false, true, true, true, false, true, false, false, false, false, false] rfl rfl (zat HT_.out HW_.out (by kernel_rfl)) (fun _ _ _ h => h) (Or.inl ⟨by rfl, ?_⟩) hHeld ?_ ?_
   rotate_left
   ·
    rintro w' ⟨s0, s1, s2, s3, s4, s5, s6, s7⟩
    go_simp
    with_reducible rfl
   rotate_left
   ·
    simp only [aw]
    rfl
   refine take_ (i := 14) (N := some 32) (v := ?_) (a' := ?_) #[true, true, true, true, true, true, true, true, true, true, false, true, true, true, true, true, false, false, false, false, false] rfl rfl (zat HT_.out HW_.out (by kernel_rfl)) (fun _ _ _ h => h) (Or.inl ⟨by rfl, ?_⟩) hHeld ?_ ?_
   rotate_left
   ·
    rintro w' ⟨s0, s1, s2, s3, s4, s5, s6, s7⟩
    go_simp
    with_reducible rfl
   rotate_left
   ·
    simp only [aw]
    rfl
   refine take_ (i := 16) (N := some 34) (v := ?_) (a' := ?_) #[true, true, true, true, true, true, true, true, true, true, false, true, true, true, true, true, true, false, false, false, false] rfl rfl (zat HT_.out HW_.out (by kernel_rfl)) (fun _ _ _ h => h) (Or.inl ⟨by rfl, ?_⟩) hHeld ?_ ?_
   rotate_left
   ·
    rintro w' ⟨s0, s1, s2, s3, s4, s5, s6, s7⟩
    go_simp
    with_reducible rfl
   rotate_left
   ·
    simp only [aw]
    rfl
   refine join_ (σ := Value × Value × Nat) 1 #[true, true, true, true, true, true, true, true, true, true, true, true, true, true, true, true, true, true, true, true, false] (fun s_ => [(28, s_.1), (35, s_.2.1), (6, .pointer (some ⟨s_.2.2, 0, none⟩)), (36, .agg #[.int .i64 ((zaf l0 x4_1).f3.f0), .string ((zaf l0 x4_1).f3.f1), .string ((zaf l0 x4_1).f3.f2), .string ((zaf l0 x4_1).f3.f3), s_.1, .int .i64 ((zaf l0 x4_1).f3.f5), .int .i64 ((zaf l0 x4_1).f3.f6), s_.2.1])]) (fun s_ w' => (w'.cell? ⟨gb168, 0, none⟩ = some (.int .i64 ((zaf l0 x4_1).f3.f0)) ∧ w'.cell? ⟨gb168, 1, none⟩ = some (.string ((zaf l0 x4_1).f3.f1)) ∧ w'.cell? ⟨gb168, 2, none⟩ = some (.string ((zaf l0 x4_1).f3.f2)) ∧ w'.cell? ⟨gb168, 3, none⟩ = some (.string ((zaf l0 x4_1).f3.f3)) ∧ w'.cell? ⟨gb168, 4, none⟩ = some (.slice A167_7 ((zaf l0 x4_1).f3.f4).length c167_7) ∧ w'.cell? ⟨gb168, 5, none⟩ = some (.int .i64 ((zaf l0 x4_1).f3.f5)) ∧ w'.cell? ⟨gb168, 6, none⟩ = some (.int .i64 ((zaf l0 x4_1).f3.f6)) ∧ w'.cell? ⟨gb168, 7, none⟩ = some (.slice A167_10 ((zaf l0 x4_1).f3.f7).length c167_10)) ∧ (Kd.R k38 38 w' w.heap.size (fun _ => True) s_.1 y169) ∧ (Kd.R (Kd.int .i64) 3 w' w.heap.size (fun _ => True) s_.2.1 y172) ∧ (Kd.S k57 57 w' w.heap.size (fun k_ => some k_ ≠ (s_.1 : Value).ownBlock ∧ some k_ ≠ (s_.2.1 : Value).ownBlock) u3 x3_1) ∧ (w'.heap[gb168]? = some (.cells #[.int .i64 ((zaf l0 x4_1).f3.f0), .string ((zaf l0 x4_1).f3.f1), .string ((zaf l0 x4_1).f3.f2), .string ((zaf l0 x4_1).f3.f3), .slice A167_7 ((zaf l0 x4_1).f3.f4).length c167_7, .int .i64 ((zaf l0 x4_1).f3.f5), .int .i64 ((zaf l0 x4_1).f3.f6), .slice A167_10 ((zaf l0 x4_1).f3.f7).length c167_10] 34 (0, 0))) ∧ (w'.heap[s_.2.2]? = some (.cells #[.int .i64 0, .string (⟨#[]⟩ : ByteArray), .string (⟨#[]⟩ : ByteArray), .string (⟨#[]⟩ : ByteArray), .slice none 0 0, .int .i64 0, .int .i64 0, .slice none 0 0] 55 (0, 0))) ∧ (w.heap.size ≤ s_.2.2) ∧ (w.heap.size ≤ s_.2.2) ∧ (gb168 ≠ s_.2.2) ∧ (s_.2.2 ≠ gb168) ∧ (Below w.heap.size w w')) ?_ ?_
   rotate_left
   ·
    intro hCont
    refine two_ (i := 10) (j := 19) (Ni := some 28) (Nj := some 6) (tm 21 131071) (tm 21 654335) rfl rfl rfl rfl (two_of HT_.out (by kernel_rfl)) (by decide) (by decide) (fun K hK => ?_) (fun K hK => ?_)
    rotate_left
    ·
     skip
     refine box_step ?hg (N := 6) ?hd (cs := #[.int .i64 0, .string (⟨#[]⟩ : ByteArray), .string (⟨#[]⟩ : ByteArray), .string (⟨#[]⟩ : ByteArray), .slice none 0 0, .int .i64 0, .int .i64 0, .slice none 0 0]) (t := 55) ?hr ?_; (case hd => rfl); (case hg => rfl); (case hr => first | (go_simp; done) | (go_simp; rfl))
     intro gb175 hg w11 hbox hb
     have n0_ := Aside0.mk (Kd.S_below (by (with_reducible repeat (first | apply Kd.S_alloc | apply Kd.S_drewN | apply Kd.S_drew)); exact HO_3.out) hb)
     have n1_ := Aside0.mk (zaz (g := gb168) (o := .cells #[.int .i64 ((zaf l0 x4_1).f3.f0), .string ((zaf l0 x4_1).f3.f1), .string ((zaf l0 x4_1).f3.f2), .string ((zaf l0 x4_1).f3.f3), .slice A167_7 ((zaf l0 x4_1).f3.f4).length c167_7, .int .i64 ((zaf l0 x4_1).f3.f5), .int .i64 ((zaf l0 x4_1).f3.f6), .slice A167_10 ((zaf l0 x4_1).f3.f7).length c167_10] 34 (0, 0)) (by (with_reducible repeat (first | refine zai ?_ _ | refine zaj ?_ | refine zag ?_ _)); exact BK168.out) hb)
     have n2_ := Aside0.mk (zap (by repeat with_reducible first | exact HB.out | apply zae | apply zac | apply zad | refine zah ?_ GE168.out) hb)
     have n3_ := Aside0.mk (hbox)
     have n4_ := Aside0.mk ((by rw [hg]; exact (zal (by repeat with_reducible first | exact HB.out | apply zae | apply zac | apply zad | refine zah ?_ GE168.out)) : w.heap.size ≤ gb175))
     have n5_ := Aside0.mk ((by rw [hg]; exact (zal (by repeat with_reducible first | exact HB.out | apply zae | apply zac | apply zad | refine zah ?_ GE168.out)) : w.heap.size ≤ gb175))
     have n6_ := Aside0.mk ((by rw [hg]; exact Nat.ne_of_lt (blk_lt (g := gb168) (o := .cells #[.int .i64 ((zaf l0 x4_1).f3.f0), .string ((zaf l0 x4_1).f3.f1), .string ((zaf l0 x4_1).f3.f2), .string ((zaf l0 x4_1).f3.f3), .slice A167_7 ((zaf l0 x4_1).f3.f4).length c167_7, .int .i64 ((zaf l0 x4_1).f3.f5), .int .i64 ((zaf l0 x4_1).f3.f6), .slice A167_10 ((zaf l0 x4_1).f3.f7).length c167_10] 34 (0, 0)) (by (with_reducible repeat (first | refine zai ?_ _ | refine zaj ?_ | refine zag ?_ _)); exact BK168.out)) : gb168 ≠ gb175))
     have n7_ := Aside0.mk ((by rw [hg]; exact Nat.ne_of_gt (blk_lt (g := gb168) (o := .cells #[.int .i64 ((zaf l0 x4_1).f3.f0), .string ((zaf l0 x4_1).f3.f1), .string ((zaf l0 x4_1).f3.f2), .string ((zaf l0 x4_1).f3.f3), .slice A167_7 ((zaf l0 x4_1).f3.f4).length c167_7, .int .i64 ((zaf l0 x4_1).f3.f5), .int .i64 ((zaf l0 x4_1).f3.f6), .slice A167_10 ((zaf l0 x4_1).f3.f7).length c167_10] 34 (0, 0)) (by (with_reducible repeat (first | refine zai ?_ _ | refine zaj ?_ | refine zag ?_ _)); exact BK168.out)) : gb175 ≠ gb168))
     clear HO_3
     clear BK168
     clear HB
     have HO_3 := n0_
     have BK168 := n1_
     have HB := n2_
     have BK175 := n3_
     have GW175 := n4_
     have GE175 := n5_
     have NB168_175 := n6_
     have NB175_168 := n7_
     clear n0_ n1_ n2_ n3_ n4_ n5_ n6_ n7_
     clear hb hbox hg
     refine hK.out _ _ ⟨(zaa BK168.out 0).trans rfl, (zaa BK168.out 1).trans rfl, (zaa BK168.out 2).trans rfl, (zaa BK168.out 3).trans rfl, (zaa BK168.out 4).trans rfl, (zaa BK168.out 5).trans rfl, (zaa BK168.out 6).trans rfl, (zaa BK168.out 7).trans rfl⟩ (fun hHeld => ?_)
     clear hK K
     refine norm_ (a' := ?_) ?_ ?_
     rotate_left
     ·
      show Act.put _ (some 6) _ = _
      simp only [aw]
      rfl
     refine one_ (i := 10) (N := some 28) (tm 21 655359) rfl rfl (one_of HT_.out (by kernel_rfl)) (by decide) (fun K hK => ?_)
     refine Kd.R_append_rows_step k38 (w0 := w) w.heap.size (by rfl) (.const (.slice none 0 0)) (.tmp 27) 31 38 (.agg #[(.string ⟨#[]⟩), (.string ⟨#[]⟩)]) 32 rfl Tryd.underlying31 info38 rfl (by decide) (by omega) (.slice none 0 0) ([] : List (S38)) ((zaf l0 x4_1).f3.f4) _ _ _ (fun _ => True) (fun _ => False) rfl rfl ?aO ?aR (fun _ _ h => h) (fun _ h => h.elim) ?aF ?aB ?aS ?aL ?_
     (case aR => repeat (first | exact (Kd.C_below HR167_7.out HB.out) | (with_reducible refine Kd.C_alloc ?_ _) | (with_reducible refine Kd.C_drewN ?_ _) | (with_reducible refine Kd.C_drew ?_)))
     (case aB => exact (by repeat with_reducible first | exact HB.out | apply zae | apply zac | apply zad | refine zah ?_ GE168.out | refine zah ?_ GE175.out))
     (case aF => exact (fun _ _ => trivial))
     (case aO => exact ((Kd.R_nil _ _ _ _ (fun _ => True))))
     (case aS => exact (zal (by repeat with_reducible first | exact HB.out | apply zae | apply zac | apply zad | refine zah ?_ GE168.out | refine zah ?_ GE175.out)))
     (case aL => have := LMc4.out; omega)
     intro v170 w12 ho hb hg hat
     rw [← Ny169.out] at ho
     have n0_ := Aside0.mk (Kd.S_after (Kd.S_apart_nil (by (with_reducible repeat (first | apply Kd.S_alloc | apply Kd.S_drewN | apply Kd.S_drew)); exact HO_3.out)) hg hat)
     have n1_ := Aside0.mk (zbk (g := gb168) (o := .cells #[.int .i64 ((zaf l0 x4_1).f3.f0), .string ((zaf l0 x4_1).f3.f1), .string ((zaf l0 x4_1).f3.f2), .string ((zaf l0 x4_1).f3.f3), .slice A167_7 ((zaf l0 x4_1).f3.f4).length c167_7, .int .i64 ((zaf l0 x4_1).f3.f5), .int .i64 ((zaf l0 x4_1).f3.f6), .slice A167_10 ((zaf l0 x4_1).f3.f7).length c167_10] 34 (0, 0)) (by (with_reducible repeat (first | refine zai ?_ _ | refine zaj ?_ | refine zag ?_ _)); exact BK168.out) hg (by simp [Value.ownBlock]))
     have n2_ := Aside0.mk (zbk (g := gb175) (o := .cells #[.int .i64 0, .string (⟨#[]⟩ : ByteArray), .string (⟨#[]⟩ : ByteArray), .string (⟨#[]⟩ : ByteArray), .slice none 0 0, .int .i64 0, .int .i64 0, .slice none 0 0] 55 (0, 0)) (by (with_reducible repeat (first | refine zai ?_ _ | refine zaj ?_ | refine zag ?_ _)); exact BK175.out) hg (by simp [Value.ownBlock]))
     have n3_ := Aside0.mk (hb)
     have n4_ := Aside0.mk (ho)
     clear HO_3
     clear BK168
     clear BK175
     clear HB
     have HO_3 := n0_
     have BK168 := n1_
     have BK175 := n2_
     have HB := n3_
     have HO171 := n4_
     clear n0_ n1_ n2_ n3_ n4_
     clear ho hb hg hat
     refine hK.out _ _ ⟨(zaa BK168.out 0).trans rfl, (zaa BK168.out 1).trans rfl, (zaa BK168.out 2).trans rfl, (zaa BK168.out 3).trans rfl, (zaa BK168.out 4).trans rfl, (zaa BK168.out 5).trans rfl, (zaa BK168.out 6).trans rfl, (zaa BK168.out 7).trans rfl⟩ (fun hHeld => ?_)
     clear hK K
     refine norm_ (a' := ?_) ?_ ?_
     rotate_left
     ·
      show Act.put _ (some 28) _ = _
      simp only [aw]
      rfl
     refine one_ (i := 17) (N := some 35) (tm 21 786431) rfl rfl (one_of HT_.out (by kernel_rfl)) (by decide) (fun K hK => ?_)
     refine Kd.R_append_rows_step (Kd.int .i64) (w0 := w) w.heap.size (by rfl) (.const (.slice none 0 0)) (.tmp 34) 32 3 (.int .i64 0) 8 rfl Tryd.underlying32 info3 rfl (by decide) (by omega) (.slice none 0 0) ([] : List Int) ((zaf l0 x4_1).f3.f7) _ _ _ (fun _ => True) (fun _ => False) rfl rfl ?aO ?aR (fun _ _ h => h) (fun _ h => h.elim) ?aF ?aB ?aS ?aL ?_
     (case aR => repeat (first | exact (Kd.C_below HR167_10.out HB.out) | (with_reducible refine Kd.C_alloc ?_ _) | (with_reducible refine Kd.C_drewN ?_ _) | (with_reducible refine Kd.C_drew ?_)))
     (case aB => exact (by repeat with_reducible first | exact HB.out | apply zae | apply zac | apply zad | refine zah ?_ GE168.out | refine zah ?_ GE175.out))
     (case aF => exact (fun _ _ => trivial))
     (case aO => exact ((Kd.R_nil _ _ _ _ (fun _ => True))))
     (case aS => exact (zal (by repeat with_reducible first | exact HB.out | apply zae | apply zac | apply zad | refine zah ?_ GE168.out | refine zah ?_ GE175.out)))
     (case aL => have := LMc5.out; omega)
     intro v173 w13 ho hb hg hat
     rw [← Ny172.out] at ho
     have n0_ := Aside0.mk (Kd.S_after (Kd.S_apart_nil (by (with_reducible repeat (first | apply Kd.S_alloc | apply Kd.S_drewN | apply Kd.S_drew)); exact HO_3.out)) hg hat)
     have n1_ := Aside0.mk (zbk (g := gb168) (o := .cells #[.int .i64 ((zaf l0 x4_1).f3.f0), .string ((zaf l0 x4_1).f3.f1), .string ((zaf l0 x4_1).f3.f2), .string ((zaf l0 x4_1).f3.f3), .slice A167_7 ((zaf l0 x4_1).f3.f4).length c167_7, .int .i64 ((zaf l0 x4_1).f3.f5), .int .i64 ((zaf l0 x4_1).f3.f6), .slice A167_10 ((zaf l0 x4_1).f3.f7).length c167_10] 34 (0, 0)) (by (with_reducible repeat (first | refine zai ?_ _ | refine zaj ?_ | refine zag ?_ _)); exact BK168.out) hg (by simp [Value.ownBlock]))
     have n2_ := Aside0.mk (zbk (g := gb175) (o := .cells #[.int .i64 0, .string (⟨#[]⟩ : ByteArray), .string (⟨#[]⟩ : ByteArray), .string (⟨#[]⟩ : ByteArray), .slice none 0 0, .int .i64 0, .int .i64 0, .slice none 0 0] 55 (0, 0)) (by (with_reducible repeat (first | refine zai ?_ _ | refine zaj ?_ | refine zag ?_ _)); exact BK175.out) hg (by simp [Value.ownBlock]))
     have n3_ := Aside0.mk (Kd.R_grown (by (with_reducible repeat (first | apply Kd.R_alloc | apply Kd.R_drewN | apply Kd.R_drew)); exact HO171.out) hg (fun _ _ => by simp [Value.ownBlock]))
     have n4_ := Aside0.mk (hb)
     have n5_ := Aside0.mk (ho)
     clear HO_3
     clear BK168
     clear BK175
     clear HO171
     clear HB
     have HO_3 := n0_
     have BK168 := n1_
     have BK175 := n2_
     have HO171 := n3_
     have HB := n4_
     have HO174 := n5_
     clear n0_ n1_ n2_ n3_ n4_ n5_
     clear ho hb hg hat
     obtain ⟨Ao14, co14, eo14⟩ := Kd.R_slice HO174.out
     (first | subst eo14 | (injection eo14 with f1_ f2_ f3_; have f4_ := f1_.symm; have f5_ := f3_.symm; clear f1_ f2_ f3_; subst f4_; subst f5_))
     obtain ⟨Ao15, co15, eo15⟩ := Kd.R_slice HO171.out
     (first | subst eo15 | (injection eo15 with f1_ f2_ f3_; have f4_ := f1_.symm; have f5_ := f3_.symm; clear f1_ f2_ f3_; subst f4_; subst f5_))
     refine hK.out _ _ ⟨(zaa BK168.out 0).trans rfl, (zaa BK168.out 1).trans rfl, (zaa BK168.out 2).trans rfl, (zaa BK168.out 3).trans rfl, (zaa BK168.out 4).trans rfl, (zaa BK168.out 5).trans rfl, (zaa BK168.out 6).trans rfl, (zaa BK168.out 7).trans rfl⟩ (fun hHeld => ?_)
     clear hK K
     refine norm_ (a' := ?_) ?_ ?_
     rotate_left
     ·
      show Act.put _ (some 35) _ = _
      simp only [aw]
      rfl
     refine pure_ (i := 18) (N := some 36) (v := ?_) (a' := ?_) (tm 21 1048575) rfl rfl (zak HT_.out (by kernel_rfl)) (fun _ _ _ h => h) (Or.inl ⟨by rfl, ?_⟩) ?_ ?_
     rotate_left
     ·
      intro w'
      go_simp
      with_reducible rfl
     rotate_left
     ·
      simp only [aw]
      rfl
     exact norm_ (by simp only [putAll, Act.put, List.setIfInBounds_toArray, List.set_cons_zero, List.set_cons_succ]) (hCont (.slice Ao15 y169.length co15, .slice Ao14 y172.length co14, gb175) _ ⟨hHeld, (by (with_reducible repeat (first | apply Kd.R_alloc | apply Kd.R_drewN | apply Kd.R_drew)); exact HO171.out), (by (with_reducible repeat (first | apply Kd.R_alloc | apply Kd.R_drewN | apply Kd.R_drew)); exact HO174.out), (by (with_reducible repeat (first | apply Kd.S_alloc | apply Kd.S_drewN | apply Kd.S_drew)); exact Kd.S_mono HO_3.out (fun _ hk => ⟨hk.1.2, hk.2⟩)), (by (with_reducible repeat (first | refine zai ?_ _ | refine zaj ?_ | refine zag ?_ _)); exact BK168.out), (by (with_reducible repeat (first | refine zai ?_ _ | refine zaj ?_ | refine zag ?_ _)); exact BK175.out), GW175.out, GE175.out, NB168_175.out, NB175_168.out, (by repeat with_reducible first | exact HB.out | apply zae | apply zac | apply zad | refine zah ?_ GE168.out | refine zah ?_ GE175.out)⟩)
    skip
    refine Kd.R_append_rows_step k38 (w0 := w) w.heap.size (by rfl) (.const (.slice none 0 0)) (.tmp 27) 31 38 (.agg #[(.string ⟨#[]⟩), (.string ⟨#[]⟩)]) 32 rfl Tryd.underlying31 info38 rfl (by decide) (by omega) (.slice none 0 0) ([] : List (S38)) ((zaf l0 x4_1).f3.f4) _ _ _ (fun _ => True) (fun _ => False) rfl rfl ?aO ?aR (fun _ _ h => h) (fun _ h => h.elim) ?aF ?aB ?aS ?aL ?_
    (case aR => repeat (first | exact (Kd.C_below HR167_7.out HB.out) | (with_reducible refine Kd.C_alloc ?_ _) | (with_reducible refine Kd.C_drewN ?_ _) | (with_reducible refine Kd.C_drew ?_)))
    (case aB => exact (by repeat with_reducible first | exact HB.out | apply zae | apply zac | apply zad | refine zah ?_ GE168.out))
    (case aF => exact (fun _ _ => trivial))
    (case aO => exact ((Kd.R_nil _ _ _ _ (fun _ => True))))
    (case aS => exact (zal (by repeat with_reducible first | exact HB.out | apply zae | apply zac | apply zad | refine zah ?_ GE168.out)))
    (case aL => have := LMc4.out; omega)
    intro v170 w11 ho hb hg hat
    rw [← Ny169.out] at ho
    have n0_ := Aside0.mk (Kd.S_after (Kd.S_apart_nil (by (with_reducible repeat (first | apply Kd.S_alloc | apply Kd.S_drewN | apply Kd.S_drew)); exact HO_3.out)) hg hat)
    have n1_ := Aside0.mk (zbk (g := gb168) (o := .cells #[.int .i64 ((zaf l0 x4_1).f3.f0), .string ((zaf l0 x4_1).f3.f1), .string ((zaf l0 x4_1).f3.f2), .string ((zaf l0 x4_1).f3.f3), .slice A167_7 ((zaf l0 x4_1).f3.f4).length c167_7, .int .i64 ((zaf l0 x4_1).f3.f5), .int .i64 ((zaf l0 x4_1).f3.f6), .slice A167_10 ((zaf l0 x4_1).f3.f7).length c167_10] 34 (0, 0)) (by (with_reducible repeat (first | refine zai ?_ _ | refine zaj ?_ | refine zag ?_ _)); exact BK168.out) hg (by simp [Value.ownBlock]))
    have n2_ := Aside0.mk (hb)
    have n3_ := Aside0.mk (ho)
    clear HO_3
    clear BK168
    clear HB
    have HO_3 := n0_
    have BK168 := n1_
    have HB := n2_
    have HO171 := n3_
    clear n0_ n1_ n2_ n3_
    clear ho hb hg hat
    refine hK.out _ _ ⟨(zaa BK168.out 0).trans rfl, (zaa BK168.out 1).trans rfl, (zaa BK168.out 2).trans rfl, (zaa BK168.out 3).trans rfl, (zaa BK168.out 4).trans rfl, (zaa BK168.out 5).trans rfl, (zaa BK168.out 6).trans rfl, (zaa BK168.out 7).trans rfl⟩ (fun hHeld => ?_)
    clear hK K
    refine norm_ (a' := ?_) ?_ ?_
    rotate_left
    ·
     show Act.put _ (some 28) _ = _
     simp only [aw]
     rfl
    refine two_ (i := 17) (j := 19) (Ni := some 35) (Nj := some 6) (tm 21 262143) (tm 21 655359) rfl rfl rfl rfl (two_of HT_.out (by kernel_rfl)) (by decide) (by decide) (fun K hK => ?_) (fun K hK => ?_)
    ·
     skip
     refine Kd.R_append_rows_step (Kd.int .i64) (w0 := w) w.heap.size (by rfl) (.const (.slice none 0 0)) (.tmp 34) 32 3 (.int .i64 0) 8 rfl Tryd.underlying32 info3 rfl (by decide) (by omega) (.slice none 0 0) ([] : List Int) ((zaf l0 x4_1).f3.f7) _ _ _ (fun _ => True) (fun _ => False) rfl rfl ?aO ?aR (fun _ _ h => h) (fun _ h => h.elim) ?aF ?aB ?aS ?aL ?_
     (case aR => repeat (first | exact (Kd.C_below HR167_10.out HB.out) | (with_reducible refine Kd.C_alloc ?_ _) | (with_reducible refine Kd.C_drewN ?_ _) | (with_reducible refine Kd.C_drew ?_)))
     (case aB => exact (by repeat with_reducible first | exact HB.out | apply zae | apply zac | apply zad | refine zah ?_ GE168.out))
     (case aF => exact (fun _ _ => trivial))
     (case aO => exact ((Kd.R_nil _ _ _ _ (fun _ => True))))
     (case aS => exact (zal (by repeat with_reducible first | exact HB.out | apply zae | apply zac | apply zad | refine zah ?_ GE168.out)))
     (case aL => have := LMc5.out; omega)
     intro v173 w12 ho hb hg hat
     rw [← Ny172.out] at ho
     have n0_ := Aside0.mk (Kd.S_after (Kd.S_apart_nil (by (with_reducible repeat (first | apply Kd.S_alloc | apply Kd.S_drewN | apply Kd.S_drew)); exact HO_3.out)) hg hat)
     have n1_ := Aside0.mk (zbk (g := gb168) (o := .cells #[.int .i64 ((zaf l0 x4_1).f3.f0), .string ((zaf l0 x4_1).f3.f1), .string ((zaf l0 x4_1).f3.f2), .string ((zaf l0 x4_1).f3.f3), .slice A167_7 ((zaf l0 x4_1).f3.f4).length c167_7, .int .i64 ((zaf l0 x4_1).f3.f5), .int .i64 ((zaf l0 x4_1).f3.f6), .slice A167_10 ((zaf l0 x4_1).f3.f7).length c167_10] 34 (0, 0)) (by (with_reducible repeat (first | refine zai ?_ _ | refine zaj ?_ | refine zag ?_ _)); exact BK168.out) hg (by simp [Value.ownBlock]))
     have n2_ := Aside0.mk (Kd.R_grown (by (with_reducible repeat (first | apply Kd.R_alloc | apply Kd.R_drewN | apply Kd.R_drew)); exact HO171.out) hg (fun _ _ => by simp [Value.ownBlock]))
     have n3_ := Aside0.mk (hb)
     have n4_ := Aside0.mk (ho)
     clear HO_3
     clear BK168
     clear HO171
     clear HB
     have HO_3 := n0_
     have BK168 := n1_
     have HO171 := n2_
     have HB := n3_
     have HO174 := n4_
     clear n0_ n1_ n2_ n3_ n4_
     clear ho hb hg hat
     obtain ⟨Ao13, co13, eo13⟩ := Kd.R_slice HO174.out
     (first | subst eo13 | (injection eo13 with f1_ f2_ f3_; have f4_ := f1_.symm; have f5_ := f3_.symm; clear f1_ f2_ f3_; subst f4_; subst f5_))
     obtain ⟨Ao14, co14, eo14⟩ := Kd.R_slice HO171.out
     (first | subst eo14 | (injection eo14 with f1_ f2_ f3_; have f4_ := f1_.symm; have f5_ := f3_.symm; clear f1_ f2_ f3_; subst f4_; subst f5_))
     refine hK.out _ _ ⟨(zaa BK168.out 0).trans rfl, (zaa BK168.out 1).trans rfl, (zaa BK168.out 2).trans rfl, (zaa BK168.out 3).trans rfl, (zaa BK168.out 4).trans rfl, (zaa BK168.out 5).trans rfl, (zaa BK168.out 6).trans rfl, (zaa BK168.out 7).trans rfl⟩ (fun hHeld => ?_)
     clear hK K
     refine norm_ (a' := ?_) ?_ ?_
     rotate_left
     ·
      show Act.put _ (some 35) _ = _
      simp only [aw]
      rfl
     refine pure_ (i := 18) (N := some 36) (v := ?_) (a' := ?_) (tm 21 524287) rfl rfl (zak HT_.out (by kernel_rfl)) (fun _ _ _ h => h) (Or.inl ⟨by rfl, ?_⟩) ?_ ?_
     rotate_left
     ·
      intro w'
      go_simp
      with_reducible rfl
     rotate_left
     ·
      simp only [aw]
      rfl
     refine one_ (i := 19) (N := some 6) (tm 21 1048575) rfl rfl (one_of HT_.out (by kernel_rfl)) (by decide) (fun K hK => ?_)
     refine box_step ?hg (N := 6) ?hd (cs := #[.int .i64 0, .string (⟨#[]⟩ : ByteArray), .string (⟨#[]⟩ : ByteArray), .string (⟨#[]⟩ : ByteArray), .slice none 0 0, .int .i64 0, .int .i64 0, .slice none 0 0]) (t := 55) ?hr ?_; (case hd => rfl); (case hg => rfl); (case hr => first | (go_simp; done) | (go_simp; rfl))
     intro gb175 hg w15 hbox hb
     have n0_ := Aside0.mk (Kd.S_below (by (with_reducible repeat (first | apply Kd.S_alloc | apply Kd.S_drewN | apply Kd.S_drew)); exact HO_3.out) hb)
     have n1_ := Aside0.mk (Kd.R_below (by (with_reducible repeat (first | apply Kd.R_alloc | apply Kd.R_drewN | apply Kd.R_drew)); exact HO171.out) hb)
     have n2_ := Aside0.mk (Kd.R_below (by (with_reducible repeat (first | apply Kd.R_alloc | apply Kd.R_drewN | apply Kd.R_drew)); exact HO174.out) hb)
     have n3_ := Aside0.mk (zaz (g := gb168) (o := .cells #[.int .i64 ((zaf l0 x4_1).f3.f0), .string ((zaf l0 x4_1).f3.f1), .string ((zaf l0 x4_1).f3.f2), .string ((zaf l0 x4_1).f3.f3), .slice A167_7 ((zaf l0 x4_1).f3.f4).length c167_7, .int .i64 ((zaf l0 x4_1).f3.f5), .int .i64 ((zaf l0 x4_1).f3.f6), .slice A167_10 ((zaf l0 x4_1).f3.f7).length c167_10] 34 (0, 0)) (by (with_reducible repeat (first | refine zai ?_ _ | refine zaj ?_ | refine zag ?_ _)); exact BK168.out) hb)
     have n4_ := Aside0.mk (zap (by repeat with_reducible first | exact HB.out | apply zae | apply zac | apply zad | refine zah ?_ GE168.out) hb)
     have n5_ := Aside0.mk (hbox)
     have n6_ := Aside0.mk ((by rw [hg]; exact (zal (by repeat with_reducible first | exact HB.out | apply zae | apply zac | apply zad | refine zah ?_ GE168.out)) : w.heap.size ≤ gb175))
     have n7_ := Aside0.mk ((by rw [hg]; exact (zal (by repeat with_reducible first | exact HB.out | apply zae | apply zac | apply zad | refine zah ?_ GE168.out)) : w.heap.size ≤ gb175))
     have n8_ := Aside0.mk ((by rw [hg]; exact Nat.ne_of_lt (blk_lt (g := gb168) (o := .cells #[.int .i64 ((zaf l0 x4_1).f3.f0), .string ((zaf l0 x4_1).f3.f1), .string ((zaf l0 x4_1).f3.f2), .string ((zaf l0 x4_1).f3.f3), .slice A167_7 ((zaf l0 x4_1).f3.f4).length c167_7, .int .i64 ((zaf l0 x4_1).f3.f5), .int .i64 ((zaf l0 x4_1).f3.f6), .slice A167_10 ((zaf l0 x4_1).f3.f7).length c167_10] 34 (0, 0)) (by (with_reducible repeat (first | refine zai ?_ _ | refine zaj ?_ | refine zag ?_ _)); exact BK168.out)) : gb168 ≠ gb175))
     have n9_ := Aside0.mk ((by rw [hg]; exact Nat.ne_of_gt (blk_lt (g := gb168) (o := .cells #[.int .i64 ((zaf l0 x4_1).f3.f0), .string ((zaf l0 x4_1).f3.f1), .string ((zaf l0 x4_1).f3.f2), .string ((zaf l0 x4_1).f3.f3), .slice A167_7 ((zaf l0 x4_1).f3.f4).length c167_7, .int .i64 ((zaf l0 x4_1).f3.f5), .int .i64 ((zaf l0 x4_1).f3.f6), .slice A167_10 ((zaf l0 x4_1).f3.f7).length c167_10] 34 (0, 0)) (by (with_reducible repeat (first | refine zai ?_ _ | refine zaj ?_ | refine zag ?_ _)); exact BK168.out)) : gb175 ≠ gb168))
     clear HO_3
     clear HO171
     clear HO174
     clear BK168
     clear HB
     have HO_3 := n0_
     have HO171 := n1_
     have HO174 := n2_
     have BK168 := n3_
     have HB := n4_
     have BK175 := n5_
     have GW175 := n6_
     have GE175 := n7_
     have NB168_175 := n8_
     have NB175_168 := n9_
     clear n0_ n1_ n2_ n3_ n4_ n5_ n6_ n7_ n8_ n9_
     clear hb hbox hg
     refine hK.out _ _ ⟨(zaa BK168.out 0).trans rfl, (zaa BK168.out 1).trans rfl, (zaa BK168.out 2).trans rfl, (zaa BK168.out 3).trans rfl, (zaa BK168.out 4).trans rfl, (zaa BK168.out 5).trans rfl, (zaa BK168.out 6).trans rfl, (zaa BK168.out 7).trans rfl⟩ (fun hHeld => ?_)
     clear hK K
     refine norm_ (a' := ?_) ?_ ?_
     rotate_left
     ·
      show Act.put _ (some 6) _ = _
      simp only [aw]
      rfl
     exact norm_ (by simp only [putAll, Act.put, List.setIfInBounds_toArray, List.set_cons_zero, List.set_cons_succ]) (hCont (.slice Ao14 y169.length co14, .slice Ao13 y172.length co13, gb175) _ ⟨hHeld, (by (with_reducible repeat (first | apply Kd.R_alloc | apply Kd.R_drewN | apply Kd.R_drew)); exact HO171.out), (by (with_reducible repeat (first | apply Kd.R_alloc | apply Kd.R_drewN | apply Kd.R_drew)); exact HO174.out), (by (with_reducible repeat (first | apply Kd.S_alloc | apply Kd.S_drewN | apply Kd.S_drew)); exact Kd.S_mono HO_3.out (fun _ hk => ⟨hk.1.2, hk.2⟩)), (by (with_reducible repeat (first | refine zai ?_ _ | refine zaj ?_ | refine zag ?_ _)); exact BK168.out), (by (with_reducible repeat (first | refine zai ?_ _ | refine zaj ?_ | refine zag ?_ _)); exact BK175.out), GW175.out, GE175.out, NB168_175.out, NB175_168.out, (by repeat with_reducible first | exact HB.out | apply zae | apply zac | apply zad | refine zah ?_ GE168.out | refine zah ?_ GE175.out)⟩)
    skip
    refine box_step ?hg (N := 6) ?hd (cs := #[.int .i64 0, .string (⟨#[]⟩ : ByteArray), .string (⟨#[]⟩ : ByteArray), .string (⟨#[]⟩ : ByteArray), .slice none 0 0, .int .i64 0, .int .i64 0, .slice none 0 0]) (t := 55) ?hr ?_; (case hd => rfl); (case hg => rfl); (case hr => first | (go_simp; done) | (go_simp; rfl))
    intro gb175 hg w12 hbox hb
    have n0_ := Aside0.mk (Kd.S_below (by (with_reducible repeat (first | apply Kd.S_alloc | apply Kd.S_drewN | apply Kd.S_drew)); exact HO_3.out) hb)
    have n1_ := Aside0.mk (Kd.R_below (by (with_reducible repeat (first | apply Kd.R_alloc | apply Kd.R_drewN | apply Kd.R_drew)); exact HO171.out) hb)
    have n2_ := Aside0.mk (zaz (g := gb168) (o := .cells #[.int .i64 ((zaf l0 x4_1).f3.f0), .string ((zaf l0 x4_1).f3.f1), .string ((zaf l0 x4_1).f3.f2), .string ((zaf l0 x4_1).f3.f3), .slice A167_7 ((zaf l0 x4_1).f3.f4).length c167_7, .int .i64 ((zaf l0 x4_1).f3.f5), .int .i64 ((zaf l0 x4_1).f3.f6), .slice A167_10 ((zaf l0 x4_1).f3.f7).length c167_10] 34 (0, 0)) (by (with_reducible repeat (first | refine zai ?_ _ | refine zaj ?_ | refine zag ?_ _)); exact BK168.out) hb)
    have n3_ := Aside0.mk (zap (by repeat with_reducible first | exact HB.out | apply zae | apply zac | apply zad | refine zah ?_ GE168.out) hb)
    have n4_ := Aside0.mk (hbox)
    have n5_ := Aside0.mk ((by rw [hg]; exact (zal (by repeat with_reducible first | exact HB.out | apply zae | apply zac | apply zad | refine zah ?_ GE168.out)) : w.heap.size ≤ gb175))
    have n6_ := Aside0.mk ((by rw [hg]; exact (zal (by repeat with_reducible first | exact HB.out | apply zae | apply zac | apply zad | refine zah ?_ GE168.out)) : w.heap.size ≤ gb175))
    have n7_ := Aside0.mk ((by rw [hg]; exact Nat.ne_of_lt (blk_lt (g := gb168) (o := .cells #[.int .i64 ((zaf l0 x4_1).f3.f0), .string ((zaf l0 x4_1).f3.f1), .string ((zaf l0 x4_1).f3.f2), .string ((zaf l0 x4_1).f3.f3), .slice A167_7 ((zaf l0 x4_1).f3.f4).length c167_7, .int .i64 ((zaf l0 x4_1).f3.f5), .int .i64 ((zaf l0 x4_1).f3.f6), .slice A167_10 ((zaf l0 x4_1).f3.f7).length c167_10] 34 (0, 0)) (by (with_reducible repeat (first | refine zai ?_ _ | refine zaj ?_ | refine zag ?_ _)); exact BK168.out)) : gb168 ≠ gb175))
    have n8_ := Aside0.mk ((by rw [hg]; exact Nat.ne_of_gt (blk_lt (g := gb168) (o := .cells #[.int .i64 ((zaf l0 x4_1).f3.f0), .string ((zaf l0 x4_1).f3.f1), .string ((zaf l0 x4_1).f3.f2), .string ((zaf l0 x4_1).f3.f3), .slice A167_7 ((zaf l0 x4_1).f3.f4).length c167_7, .int .i64 ((zaf l0 x4_1).f3.f5), .int .i64 ((zaf l0 x4_1).f3.f6), .slice A167_10 ((zaf l0 x4_1).f3.f7).length c167_10] 34 (0, 0)) (by (with_reducible repeat (first | refine zai ?_ _ | refine zaj ?_ | refine zag ?_ _)); exact BK168.out)) : gb175 ≠ gb168))
    clear HO_3
    clear HO171
    clear BK168
    clear HB
    have HO_3 := n0_
    have HO171 := n1_
    have BK168 := n2_
    have HB := n3_
    have BK175 := n4_
    have GW175 := n5_
    have GE175 := n6_
    have NB168_175 := n7_
    have NB175_168 := n8_
    clear n0_ n1_ n2_ n3_ n4_ n5_ n6_ n7_ n8_
    clear hb hbox hg
    refine hK.out _ _ ⟨(zaa BK168.out 0).trans rfl, (zaa BK168.out 1).trans rfl, (zaa BK168.out 2).trans rfl, (zaa BK168.out 3).trans rfl, (zaa BK168.out 4).trans rfl, (zaa BK168.out 5).trans rfl, (zaa BK168.out 6).trans rfl, (zaa BK168.out 7).trans rfl⟩ (fun hHeld => ?_)
    clear hK K
    refine norm_ (a' := ?_) ?_ ?_
    rotate_left
    ·
     show Act.put _ (some 6) _ = _
     simp only [aw]
     rfl
    refine one_ (i := 17) (N := some 35) (tm 21 786431) rfl rfl (one_of HT_.out (by kernel_rfl)) (by decide) (fun K hK => ?_)
    refine Kd.R_append_rows_step (Kd.int .i64) (w0 := w) w.heap.size (by rfl) (.const (.slice none 0 0)) (.tmp 34) 32 3 (.int .i64 0) 8 rfl Tryd.underlying32 info3 rfl (by decide) (by omega) (.slice none 0 0) ([] : List Int) ((zaf l0 x4_1).f3.f7) _ _ _ (fun _ => True) (fun _ => False) rfl rfl ?aO ?aR (fun _ _ h => h) (fun _ h => h.elim) ?aF ?aB ?aS ?aL ?_
    (case aR => repeat (first | exact (Kd.C_below HR167_10.out HB.out) | (with_reducible refine Kd.C_alloc ?_ _) | (with_reducible refine Kd.C_drewN ?_ _) | (with_reducible refine Kd.C_drew ?_)))
    (case aB => exact (by repeat with_reducible first | exact HB.out | apply zae | apply zac | apply zad | refine zah ?_ GE168.out | refine zah ?_ GE175.out))
    (case aF => exact (fun _ _ => trivial))
    (case aO => exact ((Kd.R_nil _ _ _ _ (fun _ => True))))
    (case aS => exact (zal (by repeat with_reducible first | exact HB.out | apply zae | apply zac | apply zad | refine zah ?_ GE168.out | refine zah ?_ GE175.out)))
    (case aL => have := LMc5.out; omega)
    intro v173 w13 ho hb hg hat
    rw [← Ny172.out] at ho
    have n0_ := Aside0.mk (Kd.S_after (Kd.S_apart_nil (by (with_reducible repeat (first | apply Kd.S_alloc | apply Kd.S_drewN | apply Kd.S_drew)); exact HO_3.out)) hg hat)
    have n1_ := Aside0.mk (zbk (g := gb168) (o := .cells #[.int .i64 ((zaf l0 x4_1).f3.f0), .string ((zaf l0 x4_1).f3.f1), .string ((zaf l0 x4_1).f3.f2), .string ((zaf l0 x4_1).f3.f3), .slice A167_7 ((zaf l0 x4_1).f3.f4).length c167_7, .int .i64 ((zaf l0 x4_1).f3.f5), .int .i64 ((zaf l0 x4_1).f3.f6), .slice A167_10 ((zaf l0 x4_1).f3.f7).length c167_10] 34 (0, 0)) (by (with_reducible repeat (first | refine zai ?_ _ | refine zaj ?_ | refine zag ?_ _)); exact BK168.out) hg (by simp [Value.ownBlock]))
    have n2_ := Aside0.mk (Kd.R_grown (by (with_reducible repeat (first | apply Kd.R_alloc | apply Kd.R_drewN | apply Kd.R_drew)); exact HO171.out) hg (fun _ _ => by simp [Value.ownBlock]))
    have n3_ := Aside0.mk (zbk (g := gb175) (o := .cells #[.int .i64 0, .string (⟨#[]⟩ : ByteArray), .string (⟨#[]⟩ : ByteArray), .string (⟨#[]⟩ : ByteArray), .slice none 0 0, .int .i64 0, .int .i64 0, .slice none 0 0] 55 (0, 0)) (by (with_reducible repeat (first | refine zai ?_ _ | refine zaj ?_ | refine zag ?_ _)); exact BK175.out) hg (by simp [Value.ownBlock]))
    have n4_ := Aside0.mk (hb)
    have n5_ := Aside0.mk (ho)
    clear HO_3
    clear BK168
    clear HO171
    clear BK175
    clear HB
    have HO_3 := n0_
    have BK168 := n1_
    have HO171 := n2_
    have BK175 := n3_
    have HB := n4_
    have HO174 := n5_
    clear n0_ n1_ n2_ n3_ n4_ n5_
    clear ho hb hg hat
    obtain ⟨Ao14, co14, eo14⟩ := Kd.R_slice HO174.out
    (first | subst eo14 | (injection eo14 with f1_ f2_ f3_; have f4_ := f1_.symm; have f5_ := f3_.symm; clear f1_ f2_ f3_; subst f4_; subst f5_))
    obtain ⟨Ao15, co15, eo15⟩ := Kd.R_slice HO171.out
    (first | subst eo15 | (injection eo15 with f1_ f2_ f3_; have f4_ := f1_.symm; have f5_ := f3_.symm; clear f1_ f2_ f3_; subst f4_; subst f5_))
    refine hK.out _ _ ⟨(zaa BK168.out 0).trans rfl, (zaa BK168.out 1).trans rfl, (zaa BK168.out 2).trans rfl, (zaa BK168.out 3).trans rfl, (zaa BK168.out 4).trans rfl, (zaa BK168.out 5).trans rfl, (zaa BK168.out 6).trans rfl, (zaa BK168.out 7).trans rfl⟩ (fun hHeld => ?_)
    clear hK K
    refine norm_ (a' := ?_) ?_ ?_
    rotate_left
    ·
     show Act.put _ (some 35) _ = _
     simp only [aw]
     rfl
    refine pure_ (i := 18) (N := some 36) (v := ?_) (a' := ?_) (tm 21 1048575) rfl rfl (zak HT_.out (by kernel_rfl)) (fun _ _ _ h => h) (Or.inl ⟨by rfl, ?_⟩) ?_ ?_
    rotate_left
    ·
     intro w'
     go_simp
     with_reducible rfl
    rotate_left
    ·
     simp only [aw]
     rfl
    exact norm_ (by simp only [putAll, Act.put, List.setIfInBounds_toArray, List.set_cons_zero, List.set_cons_succ]) (hCont (.slice Ao15 y169.length co15, .slice Ao14 y172.length co14, gb175) _ ⟨hHeld, (by (with_reducible repeat (first | apply Kd.R_alloc | apply Kd.R_drewN | apply Kd.R_drew)); exact HO171.out), (by (with_reducible repeat (first | apply Kd.R_alloc | apply Kd.R_drewN | apply Kd.R_drew)); exact HO174.out), (by (with_reducible repeat (first | apply Kd.S_alloc | apply Kd.S_drewN | apply Kd.S_drew)); exact Kd.S_mono HO_3.out (fun _ hk => ⟨hk.1.2, hk.2⟩)), (by (with_reducible repeat (first | refine zai ?_ _ | refine zaj ?_ | refine zag ?_ _)); exact BK168.out), (by (with_reducible repeat (first | refine zai ?_ _ | refine zaj ?_ | refine zag ?_ _)); exact BK175.out), GW175.out, GE175.out, NB168_175.out, NB175_168.out, (by repeat with_reducible first | exact HB.out | apply zae | apply zac | apply zad | refine zah ?_ GE168.out | refine zah ?_ GE175.out)⟩)
   rintro ⟨v170, v173, gb175⟩ w16 ⟨hS_, h0_, h1_, h2_, h3_, h4_, h5_, h6_, h7_, h8_, h9_⟩
   have n0_ : Aside0 (Kd.R k38 38 w16 w.heap.size (fun _ => True) v170 y169) := ⟨h0_⟩
   have n1_ : Aside0 (Kd.R (Kd.int .i64) 3 w16 w.heap.size (fun _ => True) v173 y172) := ⟨h1_⟩
   have n2_ : Aside0 (Kd.S k57 57 w16 w.heap.size (fun k_ => some k_ ≠ (v170 : Value).ownBlock ∧ some k_ ≠ (v173 : Value).ownBlock) u3 x3_1) := ⟨h2_⟩
   have n3_ : Aside0 (w16.heap[gb168]? = some (.cells #[.int .i64 ((zaf l0 x4_1).f3.f0), .string ((zaf l0 x4_1).f3.f1), .string ((zaf l0 x4_1).f3.f2), .string ((zaf l0 x4_1).f3.f3), .slice A167_7 ((zaf l0 x4_1).f3.f4).length c167_7, .int .i64 ((zaf l0 x4_1).f3.f5), .int .i64 ((zaf l0 x4_1).f3.f6), .slice A167_10 ((zaf l0 x4_1).f3.f7).length c167_10] 34 (0, 0))) := ⟨h3_⟩
   have n4_ : Aside0 (w16.heap[gb175]? = some (.cells #[.int .i64 0, .string (⟨#[]⟩ : ByteArray), .string (⟨#[]⟩ : ByteArray), .string (⟨#[]⟩ : ByteArray), .slice none 0 0, .int .i64 0, .int .i64 0, .slice none 0 0] 55 (0, 0))) := ⟨h4_⟩
   have n5_ : Aside0 (w.heap.size ≤ gb175) := ⟨h5_⟩
   have n6_ : Aside0 (w.heap.size ≤ gb175) := ⟨h6_⟩
   have n7_ : Aside0 (gb168 ≠ gb175) := ⟨h7_⟩
   have n8_ : Aside0 (gb175 ≠ gb168) := ⟨h8_⟩
   have n9_ : Aside0 (Below w.heap.size w w16) := ⟨h9_⟩
   clear HO_3
   clear BK168
   clear HB
   clear h0_ h1_ h2_ h3_ h4_ h5_ h6_ h7_ h8_ h9_
   have HO171 := n0_
   have HO174 := n1_
   have HO_3 := n2_
   have BK168 := n3_
   have BK175 := n4_
   have GW175 := n5_
   have GE175 := n6_
   have NB168_175 := n7_
   have NB175_168 := n8_
   have HB := n9_
   clear n0_ n1_ n2_ n3_ n4_ n5_ n6_ n7_ n8_ n9_
   have hHeld : w16.cell? ⟨gb168, 0, none⟩ = some (.int .i64 ((zaf l0 x4_1).f3.f0)) ∧ w16.cell? ⟨gb168, 1, none⟩ = some (.string ((zaf l0 x4_1).f3.f1)) ∧ w16.cell? ⟨gb168, 2, none⟩ = some (.string ((zaf l0 x4_1).f3.f2)) ∧ w16.cell? ⟨gb168, 3, none⟩ = some (.string ((zaf l0 x4_1).f3.f3)) ∧ w16.cell? ⟨gb168, 4, none⟩ = some (.slice A167_7 ((zaf l0 x4_1).f3.f4).length c167_7) ∧ w16.cell? ⟨gb168, 5, none⟩ = some (.int .i64 ((zaf l0 x4_1).f3.f5)) ∧ w16.cell? ⟨gb168, 6, none⟩ = some (.int .i64 ((zaf l0 x4_1).f3.f6)) ∧ w16.cell? ⟨gb168, 7, none⟩ = some (.slice A167_10 ((zaf l0 x4_1).f3.f7).length c167_10) := hS_
   obtain ⟨Ao17, co17, eo17⟩ := Kd.R_slice HO174.out
   (first | subst eo17 | (injection eo17 with f1_ f2_ f3_; have f4_ := f1_.symm; have f5_ := f3_.symm; clear f1_ f2_ f3_; subst f4_; subst f5_))
   obtain ⟨Ao18, co18, eo18⟩ := Kd.R_slice HO171.out
   (first | subst eo18 | (injection eo18 with f1_ f2_ f3_; have f4_ := f1_.symm; have f5_ := f3_.symm; clear f1_ f2_ f3_; subst f4_; subst f5_))
   refine norm_ (a' := ?_) ?_ ?_
   rotate_left
   ·
    simp only [putAll, Act.put, List.setIfInBounds_toArray, List.set_cons_zero, List.set_cons_succ]
    rfl
   refine one_ (i := 20) (N := none) (tm 21 2097151) rfl rfl (one_of HT_.out (by kernel_rfl)) (by decide) (fun K hK => ?_)
   have hs19 : w16.cell? ⟨gb175, 0, none⟩ = some (.int .i64 0) := (zaa BK175.out 0).trans rfl
   have hfs19 := zab BK175.out 0
   have hns19_0 := NB168_175.out
   have hms19_0 := NB175_168.out
   have hs20 : w16.cell? ⟨gb175, 1, none⟩ = some (.string (⟨#[]⟩ : ByteArray)) := (zaa BK175.out 1).trans rfl
   have hfs20 := zab BK175.out 1
   have hns20_0 := NB168_175.out
   have hms20_0 := NB175_168.out
   have hs21 : w16.cell? ⟨gb175, 2, none⟩ = some (.string (⟨#[]⟩ : ByteArray)) := (zaa BK175.out 2).trans rfl
   have hfs21 := zab BK175.out 2
   have hns21_0 := NB168_175.out
   have hms21_0 := NB175_168.out
   have hs22 : w16.cell? ⟨gb175, 3, none⟩ = some (.string (⟨#[]⟩ : ByteArray)) := (zaa BK175.out 3).trans rfl
   have hfs22 := zab BK175.out 3
   have hns22_0 := NB168_175.out
   have hms22_0 := NB175_168.out
   have hs23 : w16.cell? ⟨gb175, 4, none⟩ = some (.slice none 0 0) := (zaa BK175.out 4).trans rfl
   have hfs23 := zab BK175.out 4
   have hns23_0 := NB168_175.out
   have hms23_0 := NB175_168.out
   have hs24 : w16.cell? ⟨gb175, 5, none⟩ = some (.int .i64 0) := (zaa BK175.out 5).trans rfl
   have hfs24 := zab BK175.out 5
   have hns24_0 := NB168_175.out
   have hms24_0 := NB175_168.out
   have hs25 : w16.cell? ⟨gb175, 6, none⟩ = some (.int .i64 0) := (zaa BK175.out 6).trans rfl
   have hfs25 := zab BK175.out 6
   have hns25_0 := NB168_175.out
   have hms25_0 := NB175_168.out
   have hs26 : w16.cell? ⟨gb175, 7, none⟩ = some (.slice none 0 0) := (zaa BK175.out 7).trans rfl
   have hfs26 := zab BK175.out 7
   have hns26_0 := NB168_175.out
   have hms26_0 := NB175_168.out
   refine skip_ (w1 := ?_) (by rfl) rfl ?_ ?_
   rotate_left
   ·
    go_simp
    rfl
   refine hK.out _ _ ⟨((zaq (p := ⟨gb175, _, none⟩) NB168_175.out _).trans (((zaq (p := ⟨gb175, _, none⟩) NB168_175.out _).trans (((zaq (p := ⟨gb175, _, none⟩) NB168_175.out _).trans (((zaq (p := ⟨gb175, _, none⟩) NB168_175.out _).trans (((zaq (p := ⟨gb175, _, none⟩) NB168_175.out _).trans (((zaq (p := ⟨gb175, _, none⟩) NB168_175.out _).trans (((zaq (p := ⟨gb175, _, none⟩) NB168_175.out _).trans (((zaq (p := ⟨gb175, _, none⟩) NB168_175.out _).trans (hHeld.1)))))))))))))))), ((zaq (p := ⟨gb175, _, none⟩) NB168_175.out _).trans (((zaq (p := ⟨gb175, _, none⟩) NB168_175.out _).trans (((zaq (p := ⟨gb175, _, none⟩) NB168_175.out _).trans (((zaq (p := ⟨gb175, _, none⟩) NB168_175.out _).trans (((zaq (p := ⟨gb175, _, none⟩) NB168_175.out _).trans (((zaq (p := ⟨gb175, _, none⟩) NB168_175.out _).trans (((zaq (p := ⟨gb175, _, none⟩) NB168_175.out _).trans (((zaq (p := ⟨gb175, _, none⟩) NB168_175.out _).trans (hHeld.2.1)))))))))))))))), ((zaq (p := ⟨gb175, _, none⟩) NB168_175.out _).trans (((zaq (p := ⟨gb175, _, none⟩) NB168_175.out _).trans (((zaq (p := ⟨gb175, _, none⟩) NB168_175.out _).trans (((zaq (p := ⟨gb175, _, none⟩) NB168_175.out _).trans (((zaq (p := ⟨gb175, _, none⟩) NB168_175.out _).trans (((zaq (p := ⟨gb175, _, none⟩) NB168_175.out _).trans (((zaq (p := ⟨gb175, _, none⟩) NB168_175.out _).trans (((zaq (p := ⟨gb175, _, none⟩) NB168_175.out _).trans (hHeld.2.2.1)))))))))))))))), ((zaq (p := ⟨gb175, _, none⟩) NB168_175.out _).trans (((zaq (p := ⟨gb175, _, none⟩) NB168_175.out _).trans (((zaq (p := ⟨gb175, _, none⟩) NB168_175.out _).trans (((zaq (p := ⟨gb175, _, none⟩) NB168_175.out _).trans (((zaq (p := ⟨gb175, _, none⟩) NB168_175.out _).trans (((zaq (p := ⟨gb175, _, none⟩) NB168_175.out _).trans (((zaq (p := ⟨gb175, _, none⟩) NB168_175.out _).trans (((zaq (p := ⟨gb175, _, none⟩) NB168_175.out _).trans (hHeld.2.2.2.1)))))))))))))))), ((zaq (p := ⟨gb175, _, none⟩) NB168_175.out _).trans (((zaq (p := ⟨gb175, _, none⟩) NB168_175.out _).trans (((zaq (p := ⟨gb175, _, none⟩) NB168_175.out _).trans (((zaq (p := ⟨gb175, _, none⟩) NB168_175.out _).trans (((zaq (p := ⟨gb175, _, none⟩) NB168_175.out _).trans (((zaq (p := ⟨gb175, _, none⟩) NB168_175.out _).trans (((zaq (p := ⟨gb175, _, none⟩) NB168_175.out _).trans (((zaq (p := ⟨gb175, _, none⟩) NB168_175.out _).trans (hHeld.2.2.2.2.1)))))))))))))))), ((zaq (p := ⟨gb175, _, none⟩) NB168_175.out _).trans (((zaq (p := ⟨gb175, _, none⟩) NB168_175.out _).trans (((zaq (p := ⟨gb175, _, none⟩) NB168_175.out _).trans (((zaq (p := ⟨gb175, _, none⟩) NB168_175.out _).trans (((zaq (p := ⟨gb175, _, none⟩) NB168_175.out _).trans (((zaq (p := ⟨gb175, _, none⟩) NB168_175.out _).trans (((zaq (p := ⟨gb175, _, none⟩) NB168_175.out _).trans (((zaq (p := ⟨gb175, _, none⟩) NB168_175.out _).trans (hHeld.2.2.2.2.2.1)))))))))))))))), ((zaq (p := ⟨gb175, _, none⟩) NB168_175.out _).trans (((zaq (p := ⟨gb175, _, none⟩) NB168_175.out _).trans (((zaq (p := ⟨gb175, _, none⟩) NB168_175.out _).trans (((zaq (p := ⟨gb175, _, none⟩) NB168_175.out _).trans (((zaq (p := ⟨gb175, _, none⟩) NB168_175.out _).trans (((zaq (p := ⟨gb175, _, none⟩) NB168_175.out _).trans (((zaq (p := ⟨gb175, _, none⟩) NB168_175.out _).trans (((zaq (p := ⟨gb175, _, none⟩) NB168_175.out _).trans (hHeld.2.2.2.2.2.2.1)))))))))))))))), ((zaq (p := ⟨gb175, _, none⟩) NB168_175.out _).trans (((zaq (p := ⟨gb175, _, none⟩) NB168_175.out _).trans (((zaq (p := ⟨gb175, _, none⟩) NB168_175.out _).trans (((zaq (p := ⟨gb175, _, none⟩) NB168_175.out _).trans (((zaq (p := ⟨gb175, _, none⟩) NB168_175.out _).trans (((zaq (p := ⟨gb175, _, none⟩) NB168_175.out _).trans (((zaq (p := ⟨gb175, _, none⟩) NB168_175.out _).trans (((zaq (p := ⟨gb175, _, none⟩) NB168_175.out _).trans (hHeld.2.2.2.2.2.2.2))))))))))))))))⟩ (fun hHeld => ?_)
   clear hK K
   refine done_ (done_of HT_.out (by kernel_rfl)) ?_
   try go_wp2
   have n0_ : Aside0 (Kd.S k57 57 ((((((((w16.setCell ⟨gb175, 0, none⟩ (.int .i64 ((zaf l0 x4_1).f3.f0))).setCell ⟨gb175, 1, none⟩ (.string ((zaf l0 x4_1).f3.f1))).setCell ⟨gb175, 2, none⟩ (.string ((zaf l0 x4_1).f3.f2))).setCell ⟨gb175, 3, none⟩ (.string ((zaf l0 x4_1).f3.f3))).setCell ⟨gb175, 4, none⟩ (.slice Ao18 y169.length co18)).setCell ⟨gb175, 5, none⟩ (.int .i64 ((zaf l0 x4_1).f3.f5))).setCell ⟨gb175, 6, none⟩ (.int .i64 ((zaf l0 x4_1).f3.f6))).setCell ⟨gb175, 7, none⟩ (.slice Ao17 y172.length co17)) w.heap.size (fun k_ => some k_ ≠ (.slice Ao18 y169.length co18 : Value).ownBlock ∧ some k_ ≠ (.slice Ao17 y172.length co17 : Value).ownBlock) u3 x3_1) := ⟨by (with_reducible repeat (first | apply Kd.S_alloc | apply Kd.S_drewN | apply Kd.S_drew)); exact Kd.S_mono (Kd.S_far (p := ⟨gb175, 7, none⟩) (Kd.S_far (p := ⟨gb175, 6, none⟩) (Kd.S_far (p := ⟨gb175, 5, none⟩) (Kd.S_far (p := ⟨gb175, 4, none⟩) (Kd.S_far (p := ⟨gb175, 3, none⟩) (Kd.S_far (p := ⟨gb175, 2, none⟩) (Kd.S_far (p := ⟨gb175, 1, none⟩) (Kd.S_far (p := ⟨gb175, 0, none⟩) (Kd.S_types HO_3.out BK175.out (by decide)) (fun _ hk => hk.2) (.int .i64 ((zaf l0 x4_1).f3.f0))) (fun _ hk => hk.2) (.string ((zaf l0 x4_1).f3.f1))) (fun _ hk => hk.2) (.string ((zaf l0 x4_1).f3.f2))) (fun _ hk => hk.2) (.string ((zaf l0 x4_1).f3.f3))) (fun _ hk => hk.2) (.slice Ao18 y169.length co18)) (fun _ hk => hk.2) (.int .i64 ((zaf l0 x4_1).f3.f5))) (fun _ hk => hk.2) (.int .i64 ((zaf l0 x4_1).f3.f6))) (fun _ hk => hk.2) (.slice Ao17 y172.length co17)) (fun _ hk => ⟨hk.1.1, hk.1.2⟩)⟩
   have n1_ : Aside0 (Kd.R k38 38 ((((((((w16.setCell ⟨gb175, 0, none⟩ (.int .i64 ((zaf l0 x4_1).f3.f0))).setCell ⟨gb175, 1, none⟩ (.string ((zaf l0 x4_1).f3.f1))).setCell ⟨gb175, 2, none⟩ (.string ((zaf l0 x4_1).f3.f2))).setCell ⟨gb175, 3, none⟩ (.string ((zaf l0 x4_1).f3.f3))).setCell ⟨gb175, 4, none⟩ (.slice Ao18 y169.length co18)).setCell ⟨gb175, 5, none⟩ (.int .i64 ((zaf l0 x4_1).f3.f5))).setCell ⟨gb175, 6, none⟩ (.int .i64 ((zaf l0 x4_1).f3.f6))).setCell ⟨gb175, 7, none⟩ (.slice Ao17 y172.length co17)) w.heap.size (fun _ => True) (.slice Ao18 y169.length co18) y169) := ⟨by (with_reducible repeat (first | apply Kd.R_alloc | apply Kd.R_drewN | apply Kd.R_drew)); exact Kd.R_mono (Kd.R_far (p := ⟨gb175, 7, none⟩) (Kd.R_far (p := ⟨gb175, 6, none⟩) (Kd.R_far (p := ⟨gb175, 5, none⟩) (Kd.R_far (p := ⟨gb175, 4, none⟩) (Kd.R_far (p := ⟨gb175, 3, none⟩) (Kd.R_far (p := ⟨gb175, 2, none⟩) (Kd.R_far (p := ⟨gb175, 1, none⟩) (Kd.R_far (p := ⟨gb175, 0, none⟩) (Kd.R_types HO171.out BK175.out (by decide)) (fun _ hk => hk.2) (.int .i64 ((zaf l0 x4_1).f3.f0))) (fun _ hk => hk.2) (.string ((zaf l0 x4_1).f3.f1))) (fun _ hk => hk.2) (.string ((zaf l0 x4_1).f3.f2))) (fun _ hk => hk.2) (.string ((zaf l0 x4_1).f3.f3))) (fun _ hk => hk.2) (.slice Ao18 y169.length co18)) (fun _ hk => hk.2) (.int .i64 ((zaf l0 x4_1).f3.f5))) (fun _ hk => hk.2) (.int .i64 ((zaf l0 x4_1).f3.f6))) (fun _ hk => hk.2) (.slice Ao17 y172.length co17)) (fun _ hk => trivial)⟩
   have n2_ : Aside0 (Kd.R (Kd.int .i64) 3 ((((((((w16.setCell ⟨gb175, 0, none⟩ (.int .i64 ((zaf l0 x4_1).f3.f0))).setCell ⟨gb175, 1, none⟩ (.string ((zaf l0 x4_1).f3.f1))).setCell ⟨gb175, 2, none⟩ (.string ((zaf l0 x4_1).f3.f2))).setCell ⟨gb175, 3, none⟩ (.string ((zaf l0 x4_1).f3.f3))).setCell ⟨gb175, 4, none⟩ (.slice Ao18 y169.length co18)).setCell ⟨gb175, 5, none⟩ (.int .i64 ((zaf l0 x4_1).f3.f5))).setCell ⟨gb175, 6, none⟩ (.int .i64 ((zaf l0 x4_1).f3.f6))).setCell ⟨gb175, 7, none⟩ (.slice Ao17 y172.length co17)) w.heap.size (fun _ => True) (.slice Ao17 y172.length co17) y172) := ⟨by (with_reducible repeat (first | apply Kd.R_alloc | apply Kd.R_drewN | apply Kd.R_drew)); exact Kd.R_mono (Kd.R_far (p := ⟨gb175, 7, none⟩) (Kd.R_far (p := ⟨gb175, 6, none⟩) (Kd.R_far (p := ⟨gb175, 5, none⟩) (Kd.R_far (p := ⟨gb175, 4, none⟩) (Kd.R_far (p := ⟨gb175, 3, none⟩) (Kd.R_far (p := ⟨gb175, 2, none⟩) (Kd.R_far (p := ⟨gb175, 1, none⟩) (Kd.R_far (p := ⟨gb175, 0, none⟩) (Kd.R_types HO174.out BK175.out (by decide)) (fun _ hk => hk.2) (.int .i64 ((zaf l0 x4_1).f3.f0))) (fun _ hk => hk.2) (.string ((zaf l0 x4_1).f3.f1))) (fun _ hk => hk.2) (.string ((zaf l0 x4_1).f3.f2))) (fun _ hk => hk.2) (.string ((zaf l0 x4_1).f3.f3))) (fun _ hk => hk.2) (.slice Ao18 y169.length co18)) (fun _ hk => hk.2) (.int .i64 ((zaf l0 x4_1).f3.f5))) (fun _ hk => hk.2) (.int .i64 ((zaf l0 x4_1).f3.f6))) (fun _ hk => hk.2) (.slice Ao17 y172.length co17)) (fun _ hk => trivial)⟩
   have n3_ : Aside0 (((((((((w16.setCell ⟨gb175, 0, none⟩ (.int .i64 ((zaf l0 x4_1).f3.f0))).setCell ⟨gb175, 1, none⟩ (.string ((zaf l0 x4_1).f3.f1))).setCell ⟨gb175, 2, none⟩ (.string ((zaf l0 x4_1).f3.f2))).setCell ⟨gb175, 3, none⟩ (.string ((zaf l0 x4_1).f3.f3))).setCell ⟨gb175, 4, none⟩ (.slice Ao18 y169.length co18)).setCell ⟨gb175, 5, none⟩ (.int .i64 ((zaf l0 x4_1).f3.f5))).setCell ⟨gb175, 6, none⟩ (.int .i64 ((zaf l0 x4_1).f3.f6))).setCell ⟨gb175, 7, none⟩ (.slice Ao17 y172.length co17)).heap[gb168]? = some (.cells #[.int .i64 ((zaf l0 x4_1).f3.f0), .string ((zaf l0 x4_1).f3.f1), .string ((zaf l0 x4_1).f3.f2), .string ((zaf l0 x4_1).f3.f3), .slice A167_7 ((zaf l0 x4_1).f3.f4).length c167_7, .int .i64 ((zaf l0 x4_1).f3.f5), .int .i64 ((zaf l0 x4_1).f3.f6), .slice A167_10 ((zaf l0 x4_1).f3.f7).length c167_10] 34 (0, 0))) := ⟨by (with_reducible repeat (first | refine zai ?_ _ | refine zaj ?_ | refine zag ?_ _)); refine blk_far ?_ NB168_175.out _; (with_reducible repeat (first | refine zai ?_ _ | refine zaj ?_ | refine zag ?_ _)); refine blk_far ?_ NB168_175.out _; (with_reducible repeat (first | refine zai ?_ _ | refine zaj ?_ | refine zag ?_ _)); refine blk_far ?_ NB168_175.out _; (with_reducible repeat (first | refine zai ?_ _ | refine zaj ?_ | refine zag ?_ _)); refine blk_far ?_ NB168_175.out _; (with_reducible repeat (first | refine zai ?_ _ | refine zaj ?_ | refine zag ?_ _)); refine blk_far ?_ NB168_175.out _; (with_reducible repeat (first | refine zai ?_ _ | refine zaj ?_ | refine zag ?_ _)); refine blk_far ?_ NB168_175.out _; (with_reducible repeat (first | refine zai ?_ _ | refine zaj ?_ | refine zag ?_ _)); refine blk_far ?_ NB168_175.out _; (with_reducible repeat (first | refine zai ?_ _ | refine zaj ?_ | refine zag ?_ _)); refine blk_far ?_ NB168_175.out _; (with_reducible repeat (first | refine zai ?_ _ | refine zaj ?_ | refine zag ?_ _)); exact BK168.out⟩
   have n4_ : Aside0 (((((((((w16.setCell ⟨gb175, 0, none⟩ (.int .i64 ((zaf l0 x4_1).f3.f0))).setCell ⟨gb175, 1, none⟩ (.string ((zaf l0 x4_1).f3.f1))).setCell ⟨gb175, 2, none⟩ (.string ((zaf l0 x4_1).f3.f2))).setCell ⟨gb175, 3, none⟩ (.string ((zaf l0 x4_1).f3.f3))).setCell ⟨gb175, 4, none⟩ (.slice Ao18 y169.length co18)).setCell ⟨gb175, 5, none⟩ (.int .i64 ((zaf l0 x4_1).f3.f5))).setCell ⟨gb175, 6, none⟩ (.int .i64 ((zaf l0 x4_1).f3.f6))).setCell ⟨gb175, 7, none⟩ (.slice Ao17 y172.length co17)).heap[gb175]? = some (.cells #[.int .i64 ((zaf l0 x4_1).f3.f0), .string ((zaf l0 x4_1).f3.f1), .string ((zaf l0 x4_1).f3.f2), .string ((zaf l0 x4_1).f3.f3), .slice Ao18 y169.length co18, .int .i64 ((zaf l0 x4_1).f3.f5), .int .i64 ((zaf l0 x4_1).f3.f6), .slice Ao17 y172.length co17] 55 (0, 0))) := ⟨by (with_reducible repeat (first | refine zai ?_ _ | refine zaj ?_ | refine zag ?_ _)); refine zar (cs := #[.int .i64 ((zaf l0 x4_1).f3.f0), .string ((zaf l0 x4_1).f3.f1), .string ((zaf l0 x4_1).f3.f2), .string ((zaf l0 x4_1).f3.f3), .slice Ao18 y169.length co18, .int .i64 ((zaf l0 x4_1).f3.f5), .int .i64 ((zaf l0 x4_1).f3.f6), .slice none 0 0]) ?_ 7 _ rfl; (with_reducible repeat (first | refine zai ?_ _ | refine zaj ?_ | refine zag ?_ _)); refine zar (cs := #[.int .i64 ((zaf l0 x4_1).f3.f0), .string ((zaf l0 x4_1).f3.f1), .string ((zaf l0 x4_1).f3.f2), .string ((zaf l0 x4_1).f3.f3), .slice Ao18 y169.length co18, .int .i64 ((zaf l0 x4_1).f3.f5), .int .i64 0, .slice none 0 0]) ?_ 6 _ rfl; (with_reducible repeat (first | refine zai ?_ _ | refine zaj ?_ | refine zag ?_ _)); refine zar (cs := #[.int .i64 ((zaf l0 x4_1).f3.f0), .string ((zaf l0 x4_1).f3.f1), .string ((zaf l0 x4_1).f3.f2), .string ((zaf l0 x4_1).f3.f3), .slice Ao18 y169.length co18, .int .i64 0, .int .i64 0, .slice none 0 0]) ?_ 5 _ rfl; (with_reducible repeat (first | refine zai ?_ _ | refine zaj ?_ | refine zag ?_ _)); refine zar (cs := #[.int .i64 ((zaf l0 x4_1).f3.f0), .string ((zaf l0 x4_1).f3.f1), .string ((zaf l0 x4_1).f3.f2), .string ((zaf l0 x4_1).f3.f3), .slice none 0 0, .int .i64 0, .int .i64 0, .slice none 0 0]) ?_ 4 _ rfl; (with_reducible repeat (first | refine zai ?_ _ | refine zaj ?_ | refine zag ?_ _)); refine zar (cs := #[.int .i64 ((zaf l0 x4_1).f3.f0), .string ((zaf l0 x4_1).f3.f1), .string ((zaf l0 x4_1).f3.f2), .string (⟨#[]⟩ : ByteArray), .slice none 0 0, .int .i64 0, .int .i64 0, .slice none 0 0]) ?_ 3 _ rfl; (with_reducible repeat (first | refine zai ?_ _ | refine zaj ?_ | refine zag ?_ _)); refine zar (cs := #[.int .i64 ((zaf l0 x4_1).f3.f0), .string ((zaf l0 x4_1).f3.f1), .string (⟨#[]⟩ : ByteArray), .string (⟨#[]⟩ : ByteArray), .slice none 0 0, .int .i64 0, .int .i64 0, .slice none 0 0]) ?_ 2 _ rfl; (with_reducible repeat (first | refine zai ?_ _ | refine zaj ?_ | refine zag ?_ _)); refine zar (cs := #[.int .i64 ((zaf l0 x4_1).f3.f0), .string (⟨#[]⟩ : ByteArray), .string (⟨#[]⟩ : ByteArray), .string (⟨#[]⟩ : ByteArray), .slice none 0 0, .int .i64 0, .int .i64 0, .slice none 0 0]) ?_ 1 _ rfl; (with_reducible repeat (first | refine zai ?_ _ | refine zaj ?_ | refine zag ?_ _)); refine zar (cs := #[.int .i64 0, .string (⟨#[]⟩ : ByteArray), .string (⟨#[]⟩ : ByteArray), .string (⟨#[]⟩ : ByteArray), .slice none 0 0, .int .i64 0, .int .i64 0, .slice none 0 0]) ?_ 0 _ rfl; (with_reducible repeat (first | refine zai ?_ _ | refine zaj ?_ | refine zag ?_ _)); exact BK175.out⟩
   have n5_ : Aside0 (Below w.heap.size w ((((((((w16.setCell ⟨gb175, 0, none⟩ (.int .i64 ((zaf l0 x4_1).f3.f0))).setCell ⟨gb175, 1, none⟩ (.string ((zaf l0 x4_1).f3.f1))).setCell ⟨gb175, 2, none⟩ (.string ((zaf l0 x4_1).f3.f2))).setCell ⟨gb175, 3, none⟩ (.string ((zaf l0 x4_1).f3.f3))).setCell ⟨gb175, 4, none⟩ (.slice Ao18 y169.length co18)).setCell ⟨gb175, 5, none⟩ (.int .i64 ((zaf l0 x4_1).f3.f5))).setCell ⟨gb175, 6, none⟩ (.int .i64 ((zaf l0 x4_1).f3.f6))).setCell ⟨gb175, 7, none⟩ (.slice Ao17 y172.length co17))) := ⟨by repeat with_reducible first | exact HB.out | apply zae | apply zac | apply zad | refine zah ?_ GE168.out | refine zah ?_ GE175.out⟩
   (try clear HO_3)
   (try clear HO171)
   (try clear HO174)
   (try clear BK168)
   (try clear BK175)
   (try clear HB)
   generalize ((((((((w16.setCell ⟨gb175, 0, none⟩ (.int .i64 ((zaf l0 x4_1).f3.f0))).setCell ⟨gb175, 1, none⟩ (.string ((zaf l0 x4_1).f3.f1))).setCell ⟨gb175, 2, none⟩ (.string ((zaf l0 x4_1).f3.f2))).setCell ⟨gb175, 3, none⟩ (.string ((zaf l0 x4_1).f3.f3))).setCell ⟨gb175, 4, none⟩ (.slice Ao18 y169.length co18)).setCell ⟨gb175, 5, none⟩ (.int .i64 ((zaf l0 x4_1).f3.f5))).setCell ⟨gb175, 6, none⟩ (.int .i64 ((zaf l0 x4_1).f3.f6))).setCell ⟨gb175, 7, none⟩ (.slice Ao17 y172.length co17)) = w27 at n0_ n1_ n2_ n3_ n4_ n5_ ⊢
   have HO_3 := n0_
   have HO171 := n1_
   have HO174 := n2_
   have BK168 := n3_
   have BK175 := n4_
   have HB := n5_
   clear n0_ n1_ n2_ n3_ n4_ n5_
   have n0_ := Aside0.mk (Kd.S_drew HO_3.out)
   have n1_ := Aside0.mk (Kd.R_drew HO171.out)
   have n2_ := Aside0.mk (Kd.R_drew HO174.out)
   have n3_ := Aside0.mk (zaj BK168.out)
   have n4_ := Aside0.mk (zaj BK175.out)
   have n5_ := Aside0.mk (zad HB.out)
   clear HO_3
   clear HO171
   clear HO174
   clear BK168
   clear BK175
   clear HB
   have HO_3 := n0_
   have HO171 := n1_
   have HO174 := n2_
   have BK168 := n3_
   have BK175 := n4_
   have HB := n5_
   clear n0_ n1_ n2_ n3_ n4_ n5_
   have p176 : 0 ≤ (x4_1 : Int) := of_decide_eq_true (by first | (with_reducible assumption) | assumption)
   have q176 : x4_1 < (l0.length : Int) := of_decide_eq_true (by first | (with_reducible assumption) | assumption)
   obtain ⟨ad176, A176_7, c176_7, A176_10, c176_10, e176, hx176_0, hx176_1, hx176_2, hx176_3, hx176_4, hx176_5, hx176_6, hx176_7, hx176_8, hx176_9, hx176_10, hx176_11, hl176_7, hi176_7, hl176_10, hi176_10⟩ := at_T36 HR0.out x4_1 p176 q176
   have hw176_11 := hx176_11
   have hw176_10 := hx176_10
   have hw176_9 := hx176_9
   have hw176_8 := hx176_8
   have hw176_7 := hx176_7
   have hw176_6 := hx176_6
   have hw176_5 := hx176_5
   have hw176_4 := hx176_4
   have hw176_3 := hx176_3
   have hw176_2 := hx176_2
   have hw176_1 := hx176_1
   have hw176_0 := hx176_0
   obtain rfl : ad167 = ad176 := (by injection e176)
   replace hx176_0 := co HB.out hx176_0
   replace hx176_1 := co HB.out hx176_1
   replace hx176_2 := co HB.out hx176_2
   replace hx176_3 := co HB.out hx176_3
   replace hx176_4 := co HB.out hx176_4
   replace hx176_5 := co HB.out hx176_5
   replace hx176_6 := co HB.out hx176_6
   replace hx176_7 := co HB.out hx176_7
   replace hx176_8 := co HB.out hx176_8
   replace hx176_9 := co HB.out hx176_9
   replace hx176_10 := co HB.out hx176_10
   replace hx176_11 := co HB.out hx176_11
   have HR176_7 := Aside0.mk hi176_7
   have HC176_7 := Aside0.mk hl176_7
   clear hi176_7 hl176_7
   have HR176_10 := Aside0.mk hi176_10
   have HC176_10 := Aside0.mk hl176_10
   clear hi176_10 hl176_10
   replace p176 := eq_true p176
   replace q176 := eq_true q176
   have p177 : 0 ≤ (x4_1 : Int) := of_decide_eq_true (by first | (with_reducible assumption) | assumption)
   have q177 : x4_1 < (l0.length : Int) := of_decide_eq_true (by first | (with_reducible assumption) | assumption)
   obtain ⟨ad177, A177_7, c177_7, A177_10, c177_10, e177, hx177_0, hx177_1, hx177_2, hx177_3, hx177_4, hx177_5, hx177_6, hx177_7, hx177_8, hx177_9, hx177_10, hx177_11, hl177_7, hi177_7, hl177_10, hi177_10⟩ := at_T36 HR0.out x4_1 p177 q177
   have hw177_11 := hx177_11
   have hw177_10 := hx177_10
   have hw177_9 := hx177_9
   have hw177_8 := hx177_8
   have hw177_7 := hx177_7
   have hw177_6 := hx177_6
   have hw177_5 := hx177_5
   have hw177_4 := hx177_4
   have hw177_3 := hx177_3
   have hw177_2 := hx177_2
   have hw177_1 := hx177_1
   have hw177_0 := hx177_0
   obtain rfl : ad167 = ad177 := (by injection e177)
   replace hx177_0 := co HB.out hx177_0
   replace hx177_1 := co HB.out hx177_1
   replace hx177_2 := co HB.out hx177_2
   replace hx177_3 := co HB.out hx177_3
   replace hx177_4 := co HB.out hx177_4
   replace hx177_5 := co HB.out hx177_5
   replace hx177_6 := co HB.out hx177_6
   replace hx177_7 := co HB.out hx177_7
   replace hx177_8 := co HB.out hx177_8
   replace hx177_9 := co HB.out hx177_9
   replace hx177_10 := co HB.out hx177_10
   replace hx177_11 := co HB.out hx177_11
   have HR177_7 := Aside0.mk hi177_7
   have HC177_7 := Aside0.mk hl177_7
   clear hi177_7 hl177_7
   have HR177_10 := Aside0.mk hi177_10
   have HC177_10 := Aside0.mk hl177_10
   clear hi177_10 hl177_10
   replace p177 := eq_true p177
   replace q177 := eq_true q177
   have ea_ := Option.some.inj (hx176_7.symm.trans hx177_7)
   injection ea_ with ea_ en_ ec_
   subst ea_
   subst ec_
   clear en_
   have ea_ := Option.some.inj (hx176_10.symm.trans hx177_10)
   injection ea_ with ea_ en_ ec_
   subst ea_
   subst ec_
   clear en_
   have p178 : 0 ≤ (x4_1 : Int) := of_decide_eq_true (by first | (with_reducible assumption) | assumption)
   have q178 : x4_1 < (l0.length : Int) := of_decide_eq_true (by first | (with_reducible assumption) | assumption)
   obtain ⟨ad178, A178_7, c178_7, A178_10, c178_10, e178, hx178_0, hx178_1, hx178_2, hx178_3, hx178_4, hx178_5, hx178_6, hx178_7, hx178_8, hx178_9, hx178_10, hx178_11, hl178_7, hi178_7, hl178_10, hi178_10⟩ := at_T36 HR0.out x4_1 p178 q178
   have hw178_11 := hx178_11
   have hw178_10 := hx178_10
   have hw178_9 := hx178_9
   have hw178_8 := hx178_8
   have hw178_7 := hx178_7
   have hw178_6 := hx178_6
   have hw178_5 := hx178_5
   have hw178_4 := hx178_4
   have hw178_3 := hx178_3
   have hw178_2 := hx178_2
   have hw178_1 := hx178_1
   have hw178_0 := hx178_0
   obtain rfl : ad167 = ad178 := (by injection e178)
   replace hx178_0 := co HB.out hx178_0
   replace hx178_1 := co HB.out hx178_1
   replace hx178_2 := co HB.out hx178_2
   replace hx178_3 := co HB.out hx178_3
   replace hx178_4 := co HB.out hx178_4
   replace hx178_5 := co HB.out hx178_5
   replace hx178_6 := co HB.out hx178_6
   replace hx178_7 := co HB.out hx178_7
   replace hx178_8 := co HB.out hx178_8
   replace hx178_9 := co HB.out hx178_9
   replace hx178_10 := co HB.out hx178_10
   replace hx178_11 := co HB.out hx178_11
   have HR178_7 := Aside0.mk hi178_7
   have HC178_7 := Aside0.mk hl178_7
   clear hi178_7 hl178_7
   have HR178_10 := Aside0.mk hi178_10
   have HC178_10 := Aside0.mk hl178_10
   clear hi178_10 hl178_10
   replace p178 := eq_true p178
   replace q178 := eq_true q178
   have ea_ := Option.some.inj (hx176_7.symm.trans hx178_7)
   injection ea_ with ea_ en_ ec_
   subst ea_
   subst ec_
   clear en_
   have ea_ := Option.some.inj (hx176_10.symm.trans hx178_10)
   injection ea_ with ea_ en_ ec_
   subst ea_
   subst ec_
   clear en_
   have p179 : 0 ≤ (x4_1 : Int) := of_decide_eq_true (by first | (with_reducible assumption) | assumption)
   have q179 : x4_1 < (l0.length : Int) := of_decide_eq_true (by first | (with_reducible assumption) | assumption)
   obtain ⟨ad179, A179_7, c179_7, A179_10, c179_10, e179, hx179_0, hx179_1, hx179_2, hx179_3, hx179_4, hx179_5, hx179_6, hx179_7, hx179_8, hx179_9, hx179_10, hx179_11, hl179_7, hi179_7, hl179_10, hi179_10⟩ := at_T36 HR0.out x4_1 p179 q179
   have hw179_11 := hx179_11
   have hw179_10 := hx179_10
   have hw179_9 := hx179_9
   have hw179_8 := hx179_8
   have hw179_7 := hx179_7
   have hw179_6 := hx179_6
   have hw179_5 := hx179_5
   have hw179_4 := hx179_4
   have hw179_3 := hx179_3
   have hw179_2 := hx179_2
   have hw179_1 := hx179_1
   have hw179_0 := hx179_0
   obtain rfl : ad167 = ad179 := (by injection e179)
   replace hx179_0 := co HB.out hx179_0
   replace hx179_1 := co HB.out hx179_1
   replace hx179_2 := co HB.out hx179_2
   replace hx179_3 := co HB.out hx179_3
   replace hx179_4 := co HB.out hx179_4
   replace hx179_5 := co HB.out hx179_5
   replace hx179_6 := co HB.out hx179_6
   replace hx179_7 := co HB.out hx179_7
   replace hx179_8 := co HB.out hx179_8
   replace hx179_9 := co HB.out hx179_9
   replace hx179_10 := co HB.out hx179_10
   replace hx179_11 := co HB.out hx179_11
   have HR179_7 := Aside0.mk hi179_7
   have HC179_7 := Aside0.mk hl179_7
   clear hi179_7 hl179_7
   have HR179_10 := Aside0.mk hi179_10
   have HC179_10 := Aside0.mk hl179_10
   clear hi179_10 hl179_10
   replace p179 := eq_true p179
   replace q179 := eq_true q179
   have ea_ := Option.some.inj (hx176_7.symm.trans hx179_7)
   injection ea_ with ea_ en_ ec_
   subst ea_
   subst ec_
   clear en_
   have ea_ := Option.some.inj (hx176_10.symm.trans hx179_10)
   injection ea_ with ea_ en_ ec_
   subst ea_
   subst ec_
   clear en_
   refine start_ (n := 26) (S := fun w' => w'.cell? ⟨gb175, 0, none⟩ = some (.int .i64 ((zaf l0 x4_1).f3.f0)) ∧ w'.cell? ⟨gb175, 1, none⟩ = some (.string ((zaf l0 x4_1).f3.f1)) ∧ w'.cell? ⟨gb175, 2, none⟩ = some (.string ((zaf l0 x4_1).f3.f2)) ∧ w'.cell? ⟨gb175, 3, none⟩ = some (.string ((zaf l0 x4_1).f3.f3)) ∧ w'.cell? ⟨gb175, 4, none⟩ = some (.slice Ao18 y169.length co18) ∧ w'.cell? ⟨gb175, 5, none⟩ = some (.int .i64 ((zaf l0 x4_1).f3.f5)) ∧ w'.cell? ⟨gb175, 6, none⟩ = some (.int .i64 ((zaf l0 x4_1).f3.f6)) ∧ w'.cell? ⟨gb175, 7, none⟩ = some (.slice Ao17 y172.length co17) ∧ w'.cell? (ad167.add ((x4_1).toNat * 12)) = some (.int .i64 ((zaf l0 x4_1).f0)) ∧ w'.cell? ⟨(ad167.add ((x4_1).toNat * 12)).block, (ad167.add ((x4_1).toNat * 12)).off + 1, none⟩ = some (.int .i64 ((zaf l0 x4_1).f1)) ∧ w'.cell? ⟨(ad167.add ((x4_1).toNat * 12)).block, (ad167.add ((x4_1).toNat * 12)).off + 2, none⟩ = some (.int .i64 ((zaf l0 x4_1).f2)) ∧ w'.cell? ⟨(ad167.add ((x4_1).toNat * 12)).block, (ad167.add ((x4_1).toNat * 12)).off + 3, none⟩ = some (.int .i64 ((zaf l0 x4_1).f3.f0)) ∧ w'.cell? ⟨(ad167.add ((x4_1).toNat * 12)).block, (ad167.add ((x4_1).toNat * 12)).off + 4, none⟩ = some (.string ((zaf l0 x4_1).f3.f1)) ∧ w'.cell? ⟨(ad167.add ((x4_1).toNat * 12)).block, (ad167.add ((x4_1).toNat * 12)).off + 5, none⟩ = some (.string ((zaf l0 x4_1).f3.f2)) ∧ w'.cell? ⟨(ad167.add ((x4_1).toNat * 12)).block, (ad167.add ((x4_1).toNat * 12)).off + 6, none⟩ = some (.string ((zaf l0 x4_1).f3.f3)) ∧ w'.cell? ⟨(ad167.add ((x4_1).toNat * 12)).block, (ad167.add ((x4_1).toNat * 12)).off + 7, none⟩ = some (.slice A176_7 ((zaf l0 x4_1).f3.f4).length c176_7) ∧ w'.cell? ⟨(ad167.add ((x4_1).toNat * 12)).block, (ad167.add ((x4_1).toNat * 12)).off + 8, none⟩ = some (.int .i64 ((zaf l0 x4_1).f3.f5)) ∧ w'.cell? ⟨(ad167.add ((x4_1).toNat * 12)).block, (ad167.add ((x4_1).toNat * 12)).off + 9, none⟩ = some (.int .i64 ((zaf l0 x4_1).f3.f6)) ∧ w'.cell? ⟨(ad167.add ((x4_1).toNat * 12)).block, (ad167.add ((x4_1).toNat * 12)).off + 10, none⟩ = some (.slice A176_10 ((zaf l0 x4_1).f3.f7).length c176_10) ∧ w'.cell? ⟨(ad167.add ((x4_1).toNat * 12)).block, (ad167.add ((x4_1).toNat * 12)).off + 11, none⟩ = some (.string ((zaf l0 x4_1).f4)) ∧ w'.cell? (ad167.add ((x4_1).toNat * 12)) = some (.int .i64 ((zaf l0 x4_1).f0)) ∧ w'.cell? ⟨(ad167.add ((x4_1).toNat * 12)).block, (ad167.add ((x4_1).toNat * 12)).off + 1, none⟩ = some (.int .i64 ((zaf l0 x4_1).f1)) ∧ w'.cell? ⟨(ad167.add ((x4_1).toNat * 12)).block, (ad167.add ((x4_1).toNat * 12)).off + 2, none⟩ = some (.int .i64 ((zaf l0 x4_1).f2)) ∧ w'.cell? ⟨(ad167.add ((x4_1).toNat * 12)).block, (ad167.add ((x4_1).toNat * 12)).off + 3, none⟩ = some (.int .i64 ((zaf l0 x4_1).f3.f0)) ∧ w'.cell? ⟨(ad167.add ((x4_1).toNat * 12)).block, (ad167.add ((x4_1).toNat * 12)).off + 4, none⟩ = some (.string ((zaf l0 x4_1).f3.f1)) ∧ w'.cell? ⟨(ad167.add ((x4_1).toNat * 12)).block, (ad167.add ((x4_1).toNat * 12)).off + 5, none⟩ = some (.string ((zaf l0 x4_1).f3.f2)) ∧ w'.cell? ⟨(ad167.add ((x4_1).toNat * 12)).block, (ad167.add ((x4_1).toNat * 12)).off + 6, none⟩ = some (.string ((zaf l0 x4_1).f3.f3)) ∧ w'.cell? ⟨(ad167.add ((x4_1).toNat * 12)).block, (ad167.add ((x4_1).toNat * 12)).off + 7, none⟩ = some (.slice A176_7 ((zaf l0 x4_1).f3.f4).length c176_7) ∧ w'.cell? ⟨(ad167.add ((x4_1).toNat * 12)).block, (ad167.add ((x4_1).toNat * 12)).off + 8, none⟩ = some (.int .i64 ((zaf l0 x4_1).f3.f5)) ∧ w'.cell? ⟨(ad167.add ((x4_1).toNat * 12)).block, (ad167.add ((x4_1).toNat * 12)).off + 9, none⟩ = some (.int .i64 ((zaf l0 x4_1).f3.f6)) ∧ w'.cell? ⟨(ad167.add ((x4_1).toNat * 12)).block, (ad167.add ((x4_1).toNat * 12)).off + 10, none⟩ = some (.slice A176_10 ((zaf l0 x4_1).f3.f7).length c176_10) ∧ w'.cell? ⟨(ad167.add ((x4_1).toNat * 12)).block, (ad167.add ((x4_1).toNat * 12)).off + 11, none⟩ = some (.string ((zaf l0 x4_1).f4)) ∧ w'.cell? (ad167.add ((x4_1).toNat * 12)) = some (.int .i64 ((zaf l0 x4_1).f0)) ∧ w'.cell? ⟨(ad167.add ((x4_1).toNat * 12)).block, (ad167.add ((x4_1).toNat * 12)).off + 1, none⟩ = some (.int .i64 ((zaf l0 x4_1).f1)) ∧ w'.cell? ⟨(ad167.add ((x4_1).toNat * 12)).block, (ad167.add ((x4_1).toNat * 12)).off + 2, none⟩ = some (.int .i64 ((zaf l0 x4_1).f2)) ∧ w'.cell? ⟨(ad167.add ((x4_1).toNat * 12)).block, (ad167.add ((x4_1).toNat * 12)).off + 3, none⟩ = some (.int .i64 ((zaf l0 x4_1).f3.f0)) ∧ w'.cell? ⟨(ad167.add ((x4_1).toNat * 12)).block, (ad167.add ((x4_1).toNat * 12)).off + 4, none⟩ = some (.string ((zaf l0 x4_1).f3.f1)) ∧ w'.cell? ⟨(ad167.add ((x4_1).toNat * 12)).block, (ad167.add ((x4_1).toNat * 12)).off + 5, none⟩ = some (.string ((zaf l0 x4_1).f3.f2)) ∧ w'.cell? ⟨(ad167.add ((x4_1).toNat * 12)).block, (ad167.add ((x4_1).toNat * 12)).off + 6, none⟩ = some (.string ((zaf l0 x4_1).f3.f3)) ∧ w'.cell? ⟨(ad167.add ((x4_1).toNat * 12)).block, (ad167.add ((x4_1).toNat * 12)).off + 7, none⟩ = some (.slice A176_7 ((zaf l0 x4_1).f3.f4).length c176_7) ∧ w'.cell? ⟨(ad167.add ((x4_1).toNat * 12)).block, (ad167.add ((x4_1).toNat * 12)).off + 8, none⟩ = some (.int .i64 ((zaf l0 x4_1).f3.f5)) ∧ w'.cell? ⟨(ad167.add ((x4_1).toNat * 12)).block, (ad167.add ((x4_1).toNat * 12)).off + 9, none⟩ = some (.int .i64 ((zaf l0 x4_1).f3.f6)) ∧ w'.cell? ⟨(ad167.add ((x4_1).toNat * 12)).block, (ad167.add ((x4_1).toNat * 12)).off + 10, none⟩ = some (.slice A176_10 ((zaf l0 x4_1).f3.f7).length c176_10) ∧ w'.cell? ⟨(ad167.add ((x4_1).toNat * 12)).block, (ad167.add ((x4_1).toNat * 12)).off + 11, none⟩ = some (.string ((zaf l0 x4_1).f4)) ∧ w'.cell? (ad167.add ((x4_1).toNat * 12)) = some (.int .i64 ((zaf l0 x4_1).f0)) ∧ w'.cell? ⟨(ad167.add ((x4_1).toNat * 12)).block, (ad167.add ((x4_1).toNat * 12)).off + 1, none⟩ = some (.int .i64 ((zaf l0 x4_1).f1)) ∧ w'.cell? ⟨(ad167.add ((x4_1).toNat * 12)).block, (ad167.add ((x4_1).toNat * 12)).off + 2, none⟩ = some (.int .i64 ((zaf l0 x4_1).f2)) ∧ w'.cell? ⟨(ad167.add ((x4_1).toNat * 12)).block, (ad167.add ((x4_1).toNat * 12)).off + 3, none⟩ = some (.int .i64 ((zaf l0 x4_1).f3.f0)) ∧ w'.cell? ⟨(ad167.add ((x4_1).toNat * 12)).block, (ad167.add ((x4_1).toNat * 12)).off + 4, none⟩ = some (.string ((zaf l0 x4_1).f3.f1)) ∧ w'.cell? ⟨(ad167.add ((x4_1).toNat * 12)).block, (ad167.add ((x4_1).toNat * 12)).off + 5, none⟩ = some (.string ((zaf l0 x4_1).f3.f2)) ∧ w'.cell? ⟨(ad167.add ((x4_1).toNat * 12)).block, (ad167.add ((x4_1).toNat * 12)).off + 6, none⟩ = some (.string ((zaf l0 x4_1).f3.f3)) ∧ w'.cell? ⟨(ad167.add ((x4_1).toNat * 12)).block, (ad167.add ((x4_1).toNat * 12)).off + 7, none⟩ = some (.slice A176_7 ((zaf l0 x4_1).f3.f4).length c176_7) ∧ w'.cell? ⟨(ad167.add ((x4_1).toNat * 12)).block, (ad167.add ((x4_1).toNat * 12)).off + 8, none⟩ = some (.int .i64 ((zaf l0 x4_1).f3.f5)) ∧ w'.cell? ⟨(ad167.add ((x4_1).toNat * 12)).block, (ad167.add ((x4_1).toNat * 12)).off + 9, none⟩ = some (.int .i64 ((zaf l0 x4_1).f3.f6)) ∧ w'.cell? ⟨(ad167.add ((x4_1).toNat * 12)).block, (ad167.add ((x4_1).toNat * 12)).off + 10, none⟩ = some (.slice A176_10 ((zaf l0 x4_1).f3.f7).length c176_10) ∧ w'.cell? ⟨(ad167.add ((x4_1).toNat * 12)).block, (ad167.add ((x4_1).toNat * 12)).off + 11, none⟩ = some (.string ((zaf l0 x4_1).f4))) (ds := []) #[false, false, false, false, false, false, false, false, false, false, false, false, false, false, false, false, false, false, false, false, false, false, false, false, false, false] (by kernel_rfl) rfl rfl ⟨(zaa BK175.out 0).trans rfl, (zaa BK175.out 1).trans rfl, (zaa BK175.out 2).trans rfl, (zaa BK175.out 3).trans rfl, (zaa BK175.out 4).trans rfl, (zaa BK175.out 5).trans rfl, (zaa BK175.out 6).trans rfl, (zaa BK175.out 7).trans rfl, (co HB.out hw176_0), (co HB.out hw176_1), (co HB.out hw176_2), (co HB.out hw176_3), (co HB.out hw176_4), (co HB.out hw176_5), (co HB.out hw176_6), (co HB.out hw176_7), (co HB.out hw176_8), (co HB.out hw176_9), (co HB.out hw176_10), (co HB.out hw176_11), (co HB.out hw177_0), (co HB.out hw177_1), (co HB.out hw177_2), (co HB.out hw177_3), (co HB.out hw177_4), (co HB.out hw177_5), (co HB.out hw177_6), (co HB.out hw177_7), (co HB.out hw177_8), (co HB.out hw177_9), (co HB.out hw177_10), (co HB.out hw177_11), (co HB.out hw178_0), (co HB.out hw178_1), (co HB.out hw178_2), (co HB.out hw178_3), (co HB.out hw178_4), (co HB.out hw178_5), (co HB.out hw178_6), (co HB.out hw178_7), (co HB.out hw178_8), (co HB.out hw178_9), (co HB.out hw178_10), (co HB.out hw178_11), (co HB.out hw179_0), (co HB.out hw179_1), (co HB.out hw179_2), (co HB.out hw179_3), (co HB.out hw179_4), (co HB.out hw179_5), (co HB.out hw179_6), (co HB.out hw179_7), (co HB.out hw179_8), (co HB.out hw179_9), (co HB.out hw179_10), (co HB.out hw179_11)⟩ (fun hHeld => ?_); refine zbp cofferlaw22_told.tab7 cofferlaw22_told.bits7 (fun HT_ HW_ => ?_)
   generalize w27.drew = w28 at HO_3 HO171 HO174 BK168 BK175 HB HR176_10 HR176_7 HR177_10 HR177_7 HR178_10 HR178_7 HR179_10 HR179_7 hx176_0 hx176_1 hx176_10 hx176_11 hx176_2 hx176_3 hx176_4 hx176_5 hx176_6 hx176_7 hx176_8 hx176_9 hx177_0 hx177_1 hx177_10 hx177_11 hx177_2 hx177_3 hx177_4 hx177_5 hx177_6 hx177_7 hx177_8 hx177_9 hx178_0 hx178_1 hx178_10 hx178_11 hx178_2 hx178_3 hx178_4 hx178_5 hx178_6 hx178_7 hx178_8 hx178_9 hx179_0 hx179_1 hx179_10 hx179_11 hx179_2 hx179_3 hx179_4 hx179_5 hx179_6 hx179_7 hx179_8 hx179_9 hHeld ⊢
   refine pure_ (i := 0) (N := some 37) (v := ?_) (a' := ?_) (tm 26 1) rfl rfl (zak HT_.out (by kernel_rfl)) (fun _ _ _ h => h) (Or.inl ⟨by rfl, ?_⟩) ?_ ?_
   rotate_left
   ·
    intro w'
    go_simp
    with_reducible rfl
   rotate_left
   ·
    simp only [aw]
    rfl
   refine pure_ (i := 1) (N := some 38) (v := ?_) (a' := ?_) (tm 26 3) rfl rfl (zak HT_.out (by kernel_rfl)) (fun _ _ _ h => h) (Or.inl ⟨by rfl, ?_⟩) ?_ ?_
   rotate_left
   ·
    intro w'
    go_simp
    with_reducible rfl
   rotate_left
   ·
    simp only [aw]
    rfl
   refine pure_ (i := 2) (N := some 39) (v := ?_) (a' := ?_) (tm 26 7) rfl rfl (zak HT_.out (by kernel_rfl)) (fun _ _ _ h => h) (Or.inl ⟨by rfl, ?_⟩) ?_ ?_
   rotate_left
   ·
    intro w'
    go_simp
    with_reducible rfl
   rotate_left
   ·
    simp only [aw]
    rfl
   refine pure_ (i := 3) (N := some 40) (v := ?_) (a' := ?_) (tm 26 15) rfl rfl (zak HT_.out (by kernel_rfl)) (fun _ _ _ h => h) (Or.inl ⟨by rfl, ?_⟩) ?_ ?_
   rotate_left
   ·
    intro w'
    go_simp
    with_reducible rfl
   rotate_left
   ·
    simp only [aw]
    rfl
   refine pure_ (i := 4) (N := some 41) (v := ?_) (a' := ?_) (tm 26 31) rfl rfl (zak HT_.out (by kernel_rfl)) (fun _ _ _ h => h) (Or.inl ⟨by rfl, ?_⟩) ?_ ?_
   rotate_left
   ·
    intro w'
    go_simp
    with_reducible rfl
   rotate_left
   ·
    simp only [aw]
    rfl
   refine pure_ (i := 6) (N := some 43) (v := ?_) (a' := ?_) (tm 26 95) rfl rfl (zak HT_.out (by kernel_rfl)) (fun _ _ _ h => h) (Or.inl ⟨by rfl, ?_⟩) ?_ ?_
   rotate_left
   ·
    intro w'
    go_simp
    with_reducible rfl
   rotate_left
   ·
    simp only [aw]
    rfl
   refine pure_ (i := 7) (N := some 44) (v := ?_) (a' := ?_) (tm 26 223) rfl rfl (zak HT_.out (by kernel_rfl)) (fun _ _ _ h => h) (Or.inl ⟨by rfl, ?_⟩) ?_ ?_
   rotate_left
   ·
    intro w'
    go_simp
    with_reducible rfl
   rotate_left
   ·
    simp only [aw]
    rfl
   refine pure_ (i := 8) (N := some 45) (v := ?_) (a' := ?_) (tm 26 479) rfl rfl (zak HT_.out (by kernel_rfl)) (fun _ _ _ h => h) (Or.inl ⟨by rfl, ?_⟩) ?_ ?_
   rotate_left
   ·
    intro w'
    go_simp
    with_reducible rfl
   rotate_left
   ·
    simp only [aw]
    rfl
   refine pure_ (i := 9) (N := some 46) (v := ?_) (a' := ?_) (tm 26 991) rfl rfl (zak HT_.out (by kernel_rfl)) (fun _ _ _ h => h) (Or.inl ⟨by rfl, ?_⟩) ?_ ?_
   rotate_left
   ·
    intro w'
    go_simp
    with_reducible rfl
   rotate_left
   ·
    simp only [aw]
    rfl
   refine pure_ (i := 11) (N := some 48) (v := ?_) (a' := ?_) (tm 26 3039) rfl rfl (zak HT_.out (by kernel_rfl)) (fun _ _ _ h => h) (Or.inl ⟨by rfl, ?_⟩) ?_ ?_
   rotate_left
   ·
    intro w'
    go_simp
    with_reducible rfl
   rotate_left
   ·
    simp only [aw]
    rfl
   refine pure_ (i := 12) (N := some 49) (v := ?_) (a' := ?_) (tm 26 7135) rfl rfl (zak HT_.out (by kernel_rfl)) (fun _ _ _ h => h) (Or.inl ⟨by rfl, ?_⟩) ?_ ?_
   rotate_left
   ·
    intro w'
    go_simp
    with_reducible rfl
   rotate_left
   ·
    simp only [aw]
    rfl
   refine pure_ (i := 13) (N := some 50) (v := ?_) (a' := ?_) (tm 26 15327) rfl rfl (zak HT_.out (by kernel_rfl)) (fun _ _ _ h => h) (Or.inl ⟨by rfl, ?_⟩) ?_ ?_
   rotate_left
   ·
    intro w'
    go_simp
    with_reducible rfl
   rotate_left
   ·
    simp only [aw]
    rfl
   refine pure_ (i := 14) (N := some 51) (v := ?_) (a' := ?_) (tm 26 31711) rfl rfl (zak HT_.out (by kernel_rfl)) (fun _ _ _ h => h) (Or.inl ⟨by rfl, ?_⟩) ?_ ?_
   rotate_left
   ·
    intro w'
    go_simp
    with_reducible rfl
   rotate_left
   ·
    simp only [aw]
    rfl
   refine pure_ (i := 17) (N := some 54) (v := ?_) (a' := ?_) (tm 26 162783) rfl rfl (zak HT_.out (by kernel_rfl)) (fun _ _ _ h => h) (Or.inl ⟨by rfl, ?_⟩) ?_ ?_
   rotate_left
   ·
    intro w'
    go_simp
    with_reducible rfl
   rotate_left
   ·
    simp only [aw]
    rfl
   refine pure_ (i := 18) (N := some 55) (v := ?_) (a' := ?_) (tm 26 424927) rfl rfl (zak HT_.out (by kernel_rfl)) (fun _ _ _ h => h) (Or.inl ⟨by rfl, ?_⟩) ?_ ?_
   rotate_left
   ·
    intro w'
    go_simp
    with_reducible rfl
   rotate_left
   ·
    simp only [aw]
    rfl
   refine pure_ (i := 19) (N := some 56) (v := ?_) (a' := ?_) (tm 26 949215) rfl rfl (zak HT_.out (by kernel_rfl)) (fun _ _ _ h => h) (Or.inl ⟨by rfl, ?_⟩) ?_ ?_
   rotate_left
   ·
    intro w'
    go_simp
    with_reducible rfl
   rotate_left
   ·
    simp only [aw]
    rfl
   refine pure_ (i := 20) (N := some 57) (v := ?_) (a' := ?_) (tm 26 1997791) rfl rfl (zak HT_.out (by kernel_rfl)) (fun _ _ _ h => h) (Or.inl ⟨by rfl, ?_⟩) ?_ ?_
   rotate_left
   ·
    intro w'
    go_simp
    with_reducible rfl
   rotate_left
   ·
    simp only [aw]
    rfl
   refine take_ (i := 5) (N := some 42) (v := ?_) (a' := ?_) #[true, true, true, true, true, true, true, true, true, true, false, true, true, true, true, false, false, true, true, true, true, false, false, false, false, false] rfl rfl (zat HT_.out HW_.out (by kernel_rfl)) (fun _ _ _ h => h) (Or.inl ⟨by rfl, ?_⟩) hHeld ?_ ?_
   rotate_left
   ·
    rintro w' ⟨s0, s1, s2, s3, s4, s5, s6, s7, s8, s9, s10, s11, s12, s13, s14, s15, s16, s17, s18, s19, s20, s21, s22, s23, s24, s25, s26, s27, s28, s29, s30, s31, s32, s33, s34, s35, s36, s37, s38, s39, s40, s41, s42, s43, s44, s45, s46, s47, s48, s49, s50, s51, s52, s53, s54, s55⟩
    go_simp
    with_reducible rfl
   rotate_left
   ·
    simp only [aw]
    rfl
   refine take_ (i := 10) (N := some 47) (v := ?_) (a' := ?_) #[true, true, true, true, true, true, true, true, true, true, true, true, true, true, true, false, false, true, true, true, true, false, false, false, false, false] rfl rfl (zat HT_.out HW_.out (by kernel_rfl)) (fun _ _ _ h => h) (Or.inl ⟨by rfl, ?_⟩) hHeld ?_ ?_
   rotate_left
   ·
    rintro w' ⟨s0, s1, s2, s3, s4, s5, s6, s7, s8, s9, s10, s11, s12, s13, s14, s15, s16, s17, s18, s19, s20, s21, s22, s23, s24, s25, s26, s27, s28, s29, s30, s31, s32, s33, s34, s35, s36, s37, s38, s39, s40, s41, s42, s43, s44, s45, s46, s47, s48, s49, s50, s51, s52, s53, s54, s55⟩
    go_simp
    with_reducible rfl
   rotate_left
   ·
    simp only [aw]
    rfl
   refine take_ (i := 15) (N := some 52) (v := ?_) (a' := ?_) #[true, true, true, true, true, true, true, true, true, true, true, true, true, true, true, true, false, true, true, true, true, false, false, false, false, false] rfl rfl (zat HT_.out HW_.out (by kernel_rfl)) (fun _ _ _ h => h) (Or.inl ⟨by rfl, ?_⟩) hHeld ?_ ?_
   rotate_left
   ·
    rintro w' ⟨s0, s1, s2, s3, s4, s5, s6, s7, s8, s9, s10, s11, s12, s13, s14, s15, s16, s17, s18, s19, s20, s21, s22, s23, s24, s25, s26, s27, s28, s29, s30, s31, s32, s33, s34, s35, s36, s37, s38, s39, s40, s41, s42, s43, s44, s45, s46, s47, s48, s49, s50, s51, s52, s53, s54, s55⟩
    go_simp
    with_reducible rfl
   rotate_left
   ·
    simp only [aw]
    rfl
   refine take_ (i := 16) (N := some 53) (v := ?_) (a' := ?_) #[true, true, true, true, true, true, true, true, true, true, true, true, true, true, true, true, true, true, true, true, true, false, false, false, false, false] rfl rfl (zat HT_.out HW_.out (by kernel_rfl)) (fun _ _ _ h => h) (Or.inl ⟨by rfl, ?_⟩) hHeld ?_ ?_
   rotate_left
   ·
    rintro w' ⟨s0, s1, s2, s3, s4, s5, s6, s7, s8, s9, s10, s11, s12, s13, s14, s15, s16, s17, s18, s19, s20, s21, s22, s23, s24, s25, s26, s27, s28, s29, s30, s31, s32, s33, s34, s35, s36, s37, s38, s39, s40, s41, s42, s43, s44, s45, s46, s47, s48, s49, s50, s51, s52, s53, s54, s55⟩
    go_simp
    with_reducible rfl
   rotate_left
   ·
    simp only [aw]
    rfl
   refine take_ (i := 21) (N := some 58) (v := ?_) (a' := ?_) #[true, true, true, true, true, true, true, true, true, true, true, true, true, true, true, true, true, true, true, true, true, true, false, false, false, false] rfl rfl (zat HT_.out HW_.out (by kernel_rfl)) (fun _ _ _ h => h) (Or.inl ⟨by rfl, ?_⟩) hHeld ?_ ?_
   rotate_left
   ·
    rintro w' ⟨s0, s1, s2, s3, s4, s5, s6, s7, s8, s9, s10, s11, s12, s13, s14, s15, s16, s17, s18, s19, s20, s21, s22, s23, s24, s25, s26, s27, s28, s29, s30, s31, s32, s33, s34, s35, s36, s37, s38, s39, s40, s41, s42, s43, s44, s45, s46, s47, s48, s49, s50, s51, s52, s53, s54, s55⟩
    go_simp
    with_reducible rfl
   rotate_left
   ·
    simp only [aw]
    rfl
   refine pure_ (i := 22) (N := some 59) (v := ?_) (a' := ?_) (tm 26 8388607) rfl rfl (zak HT_.out (by kernel_rfl)) (fun _ _ _ h => h) (Or.inl ⟨by rfl, ?_⟩) ?_ ?_
   rotate_left
   ·
    intro w'
    go_simp
    with_reducible rfl
   rotate_left
   ·
    simp only [aw]
    rfl
   refine one_ (i := 23) (N := some 60) (tm 26 16777215) rfl rfl (one_of HT_.out (by kernel_rfl)) (by decide) (fun K hK => ?_)
   refine value_ (w1 := ?_) (v := ?_) (by rfl) rfl ?_ ?_
   rotate_left 2
   ·
    go_simp
    constructor
    ·
     rfl
    rfl
   refine hK.out _ _ ⟨(zaa (zag BK175.out _) 0).trans rfl, (zaa (zag BK175.out _) 1).trans rfl, (zaa (zag BK175.out _) 2).trans rfl, (zaa (zag BK175.out _) 3).trans rfl, (zaa (zag BK175.out _) 4).trans rfl, (zaa (zag BK175.out _) 5).trans rfl, (zaa (zag BK175.out _) 6).trans rfl, (zaa (zag BK175.out _) 7).trans rfl, (World.cell?_alloc_lt _ _ _ (World.block_lt_of_cell? _ _ ((co HB.out hw176_0)))).trans ((co HB.out hw176_0)), (World.cell?_alloc_lt _ _ _ (World.block_lt_of_cell? _ _ ((co HB.out hw176_1)))).trans ((co HB.out hw176_1)), (World.cell?_alloc_lt _ _ _ (World.block_lt_of_cell? _ _ ((co HB.out hw176_2)))).trans ((co HB.out hw176_2)), (World.cell?_alloc_lt _ _ _ (World.block_lt_of_cell? _ _ ((co HB.out hw176_3)))).trans ((co HB.out hw176_3)), (World.cell?_alloc_lt _ _ _ (World.block_lt_of_cell? _ _ ((co HB.out hw176_4)))).trans ((co HB.out hw176_4)), (World.cell?_alloc_lt _ _ _ (World.block_lt_of_cell? _ _ ((co HB.out hw176_5)))).trans ((co HB.out hw176_5)), (World.cell?_alloc_lt _ _ _ (World.block_lt_of_cell? _ _ ((co HB.out hw176_6)))).trans ((co HB.out hw176_6)), (World.cell?_alloc_lt _ _ _ (World.block_lt_of_cell? _ _ ((co HB.out hw176_7)))).trans ((co HB.out hw176_7)), (World.cell?_alloc_lt _ _ _ (World.block_lt_of_cell? _ _ ((co HB.out hw176_8)))).trans ((co HB.out hw176_8)), (World.cell?_alloc_lt _ _ _ (World.block_lt_of_cell? _ _ ((co HB.out hw176_9)))).trans ((co HB.out hw176_9)), (World.cell?_alloc_lt _ _ _ (World.block_lt_of_cell? _ _ ((co HB.out hw176_10)))).trans ((co HB.out hw176_10)), (World.cell?_alloc_lt _ _ _ (World.block_lt_of_cell? _ _ ((co HB.out hw176_11)))).trans ((co HB.out hw176_11)), (World.cell?_alloc_lt _ _ _ (World.block_lt_of_cell? _ _ ((co HB.out hw177_0)))).trans ((co HB.out hw177_0)), (World.cell?_alloc_lt _ _ _ (World.block_lt_of_cell? _ _ ((co HB.out hw177_1)))).trans ((co HB.out hw177_1)), (World.cell?_alloc_lt _ _ _ (World.block_lt_of_cell? _ _ ((co HB.out hw177_2)))).trans ((co HB.out hw177_2)), (World.cell?_alloc_lt _ _ _ (World.block_lt_of_cell? _ _ ((co HB.out hw177_3)))).trans ((co HB.out hw177_3)), (World.cell?_alloc_lt _ _ _ (World.block_lt_of_cell? _ _ ((co HB.out hw177_4)))).trans ((co HB.out hw177_4)), (World.cell?_alloc_lt _ _ _ (World.block_lt_of_cell? _ _ ((co HB.out hw177_5)))).trans ((co HB.out hw177_5)), (World.cell?_alloc_lt _ _ _ (World.block_lt_of_cell? _ _ ((co HB.out hw177_6)))).trans ((co HB.out hw177_6)), (World.cell?_alloc_lt _ _ _ (World.block_lt_of_cell? _ _ ((co HB.out hw177_7)))).trans ((co HB.out hw177_7)), (World.cell?_alloc_lt _ _ _ (World.block_lt_of_cell? _ _ ((co HB.out hw177_8)))).trans ((co HB.out hw177_8)), (World.cell?_alloc_lt _ _ _ (World.block_lt_of_cell? _ _ ((co HB.out hw177_9)))).trans ((co HB.out hw177_9)), (World.cell?_alloc_lt _ _ _ (World.block_lt_of_cell? _ _ ((co HB.out hw177_10)))).trans ((co HB.out hw177_10)), (World.cell?_alloc_lt _ _ _ (World.block_lt_of_cell? _ _ ((co HB.out hw177_11)))).trans ((co HB.out hw177_11)), (World.cell?_alloc_lt _ _ _ (World.block_lt_of_cell? _ _ ((co HB.out hw178_0)))).trans ((co HB.out hw178_0)), (World.cell?_alloc_lt _ _ _ (World.block_lt_of_cell? _ _ ((co HB.out hw178_1)))).trans ((co HB.out hw178_1)), (World.cell?_alloc_lt _ _ _ (World.block_lt_of_cell? _ _ ((co HB.out hw178_2)))).trans ((co HB.out hw178_2)), (World.cell?_alloc_lt _ _ _ (World.block_lt_of_cell? _ _ ((co HB.out hw178_3)))).trans ((co HB.out hw178_3)), (World.cell?_alloc_lt _ _ _ (World.block_lt_of_cell? _ _ ((co HB.out hw178_4)))).trans ((co HB.out hw178_4)), (World.cell?_alloc_lt _ _ _ (World.block_lt_of_cell? _ _ ((co HB.out hw178_5)))).trans ((co HB.out hw178_5)), (World.cell?_alloc_lt _ _ _ (World.block_lt_of_cell? _ _ ((co HB.out hw178_6)))).trans ((co HB.out hw178_6)), (World.cell?_alloc_lt _ _ _ (World.block_lt_of_cell? _ _ ((co HB.out hw178_7)))).trans ((co HB.out hw178_7)), (World.cell?_alloc_lt _ _ _ (World.block_lt_of_cell? _ _ ((co HB.out hw178_8)))).trans ((co HB.out hw178_8)), (World.cell?_alloc_lt _ _ _ (World.block_lt_of_cell? _ _ ((co HB.out hw178_9)))).trans ((co HB.out hw178_9)), (World.cell?_alloc_lt _ _ _ (World.block_lt_of_cell? _ _ ((co HB.out hw178_10)))).trans ((co HB.out hw178_10)), (World.cell?_alloc_lt _ _ _ (World.block_lt_of_cell? _ _ ((co HB.out hw178_11)))).trans ((co HB.out hw178_11)), (World.cell?_alloc_lt _ _ _ (World.block_lt_of_cell? _ _ ((co HB.out hw179_0)))).trans ((co HB.out hw179_0)), (World.cell?_alloc_lt _ _ _ (World.block_lt_of_cell? _ _ ((co HB.out hw179_1)))).trans ((co HB.out hw179_1)), (World.cell?_alloc_lt _ _ _ (World.block_lt_of_cell? _ _ ((co HB.out hw179_2)))).trans ((co HB.out hw179_2)), (World.cell?_alloc_lt _ _ _ (World.block_lt_of_cell? _ _ ((co HB.out hw179_3)))).trans ((co HB.out hw179_3)), (World.cell?_alloc_lt _ _ _ (World.block_lt_of_cell? _ _ ((co HB.out hw179_4)))).trans ((co HB.out hw179_4)), (World.cell?_alloc_lt _ _ _ (World.block_lt_of_cell? _ _ ((co HB.out hw179_5)))).trans ((co HB.out hw179_5)), (World.cell?_alloc_lt _ _ _ (World.block_lt_of_cell? _ _ ((co HB.out hw179_6)))).trans ((co HB.out hw179_6)), (World.cell?_alloc_lt _ _ _ (World.block_lt_of_cell? _ _ ((co HB.out hw179_7)))).trans ((co HB.out hw179_7)), (World.cell?_alloc_lt _ _ _ (World.block_lt_of_cell? _ _ ((co HB.out hw179_8)))).trans ((co HB.out hw179_8)), (World.cell?_alloc_lt _ _ _ (World.block_lt_of_cell? _ _ ((co HB.out hw179_9)))).trans ((co HB.out hw179_9)), (World.cell?_alloc_lt _ _ _ (World.block_lt_of_cell? _ _ ((co HB.out hw179_10)))).trans ((co HB.out hw179_10)), (World.cell?_alloc_lt _ _ _ (World.block_lt_of_cell? _ _ ((co HB.out hw179_11)))).trans ((co HB.out hw179_11))⟩ (fun hHeld => ?_)
   clear hK K
   refine norm_ (a' := ?_) ?_ ?_
   rotate_left
   ·
    show Act.put _ (some 60) _ = _
    simp only [aw]
    rfl
   refine one_ (i := 24) (N := some 61) (tm 26 33554431) rfl rfl (one_of HT_.out (by kernel_rfl)) (by decide) (fun K hK => ?_)
   refine Kd.S_append_step k57 (w0 := w) w.heap.size (by rfl) (.tmp 37) (.tmp 60) 22 57 (.agg #[(.int .i64 0), (.int .i64 0), (.int .i64 0), (.int .i64 0), (.string ⟨#[]⟩), (.string ⟨#[]⟩), (.string ⟨#[]⟩), (.slice none 0 0), (.int .i64 0), (.int .i64 0), (.slice none 0 0), (.string ⟨#[]⟩)]) 160 rfl Tryd.underlying22 info57 rfl (by decide) (by omega) u3 x3_1 (⟨(zaf l0 x4_1).f0, (zaf l0 x4_1).f1, (zaf l0 x4_1).f2, (⟨(zaf l0 x4_1).f3.f0, (zaf l0 x4_1).f3.f1, (zaf l0 x4_1).f3.f2, (zaf l0 x4_1).f3.f3, y169, (zaf l0 x4_1).f3.f5, (zaf l0 x4_1).f3.f6, y172⟩ : S55), (zaf l0 x4_1).f4⟩ : S57) [.int .i64 ((zaf l0 x4_1).f0), .int .i64 ((zaf l0 x4_1).f1), .int .i64 ((zaf l0 x4_1).f2), .int .i64 ((zaf l0 x4_1).f3.f0), .string ((zaf l0 x4_1).f3.f1), .string ((zaf l0 x4_1).f3.f2), .string ((zaf l0 x4_1).f3.f3), .slice Ao18 y169.length co18, .int .i64 ((zaf l0 x4_1).f3.f5), .int .i64 ((zaf l0 x4_1).f3.f6), .slice Ao17 y172.length co17, .string ((zaf l0 x4_1).f4)] (fun _ => True) (fun k_ => some k_ = (.slice Ao18 y169.length co18 : Value).ownBlock ∨ some k_ = (.slice Ao17 y172.length co17 : Value).ownBlock) rfl rfl ?aP (fun k_ hk_ => hk_.elim (fun h_ => ((Kd.R_mono (ok' := fun k_ => ((fun _ => True)) k_ ∧ some k_ ≠ (u3 : Value).ownBlock) (Kd.R_apart' (HO171.out) (Kd.S_typed HO_3.out) (by decide)) (fun k_ hk => ⟨trivial, hk.2⟩))).1 k_ h_.symm) (fun h_ => ((Kd.R_mono (ok' := fun k_ => ((fun _ => True)) k_ ∧ some k_ ≠ (u3 : Value).ownBlock) (Kd.R_apart' (HO174.out) (Kd.S_typed HO_3.out) (by decide)) (fun k_ hk => ⟨trivial, hk.2⟩))).1 k_ h_.symm)) ?aF ?aO ?aB ?aS ?aL ?_
   (case aP => exact k57_mkM _ _ _ (⟨(zaf l0 x4_1).f0, (zaf l0 x4_1).f1, (zaf l0 x4_1).f2, (⟨(zaf l0 x4_1).f3.f0, (zaf l0 x4_1).f3.f1, (zaf l0 x4_1).f3.f2, (zaf l0 x4_1).f3.f3, y169, (zaf l0 x4_1).f3.f5, (zaf l0 x4_1).f3.f6, y172⟩ : S55), (zaf l0 x4_1).f4⟩ : S57) (Kd.R_mono (Kd.R_tight rfl (Kd.R_mono (ok' := fun k_ => ((fun _ => True)) k_ ∧ some k_ ≠ (u3 : Value).ownBlock) (Kd.R_apart' (HO171.out) (Kd.S_typed HO_3.out) (by decide)) (fun k_ hk => ⟨trivial, hk.2⟩))) (fun _ h_ => Or.inl h_)) (Kd.R_mono (Kd.R_tight rfl (Kd.R_mono (ok' := fun k_ => ((fun _ => True)) k_ ∧ some k_ ≠ (u3 : Value).ownBlock) (Kd.R_apart' (HO174.out) (Kd.S_typed HO_3.out) (by decide)) (fun k_ hk => ⟨trivial, hk.2⟩))) (fun _ h_ => Or.inr (h_))))
   (case aB => exact (by repeat with_reducible first | exact HB.out | apply zae | apply zac | apply zad | refine zah ?_ GE168.out | refine zah ?_ GE175.out))
   (case aF => exact (fun _ _ => trivial))
   (case aO => exact (by (with_reducible repeat (first | apply Kd.S_alloc | apply Kd.S_drewN | apply Kd.S_drew)); exact Kd.S_mono HO_3.out (fun k_ hk => ⟨trivial, fun e_ => e_.elim (fun h_ => hk.1 h_) (fun h_ => hk.2 h_)⟩)))
   (case aS => exact (zal (by repeat with_reducible first | exact HB.out | apply zae | apply zac | apply zad | refine zah ?_ GE168.out | refine zah ?_ GE175.out)))
   (case aL => have := LMc6.out; omega)
   intro v181 w29 ho hb hg hat
   rw [← Ny180.out] at ho
   have n0_ := Aside0.mk (zbk (g := gb168) (o := .cells #[.int .i64 ((zaf l0 x4_1).f3.f0), .string ((zaf l0 x4_1).f3.f1), .string ((zaf l0 x4_1).f3.f2), .string ((zaf l0 x4_1).f3.f3), .slice A167_7 ((zaf l0 x4_1).f3.f4).length c167_7, .int .i64 ((zaf l0 x4_1).f3.f5), .int .i64 ((zaf l0 x4_1).f3.f6), .slice A167_10 ((zaf l0 x4_1).f3.f7).length c167_10] 34 (0, 0)) (by (with_reducible repeat (first | refine zai ?_ _ | refine zaj ?_ | refine zag ?_ _)); exact BK168.out) hg (Kd.S_ne HO_3.out BK168.out (by decide)))
   have n1_ := Aside0.mk (zbk (g := gb175) (o := .cells #[.int .i64 ((zaf l0 x4_1).f3.f0), .string ((zaf l0 x4_1).f3.f1), .string ((zaf l0 x4_1).f3.f2), .string ((zaf l0 x4_1).f3.f3), .slice Ao18 y169.length co18, .int .i64 ((zaf l0 x4_1).f3.f5), .int .i64 ((zaf l0 x4_1).f3.f6), .slice Ao17 y172.length co17] 55 (0, 0)) (by (with_reducible repeat (first | refine zai ?_ _ | refine zaj ?_ | refine zag ?_ _)); exact BK175.out) hg (Kd.S_ne HO_3.out BK175.out (by decide)))
   have n2_ := Aside0.mk (hb)
   have n3_ := Aside0.mk (ho)
   clear BK168
   clear BK175
   clear HB
   clear HO_3
   clear HO171
   clear HO174
   have BK168 := n0_
   have BK175 := n1_
   have HB := n2_
   have HO182 := n3_
   clear n0_ n1_ n2_ n3_
   clear ho hb hg hat
   refine hK.out _ _ ⟨(zaa BK175.out 0).trans rfl, (zaa BK175.out 1).trans rfl, (zaa BK175.out 2).trans rfl, (zaa BK175.out 3).trans rfl, (zaa BK175.out 4).trans rfl, (zaa BK175.out 5).trans rfl, (zaa BK175.out 6).trans rfl, (zaa BK175.out 7).trans rfl, (co HB.out hw176_0), (co HB.out hw176_1), (co HB.out hw176_2), (co HB.out hw176_3), (co HB.out hw176_4), (co HB.out hw176_5), (co HB.out hw176_6), (co HB.out hw176_7), (co HB.out hw176_8), (co HB.out hw176_9), (co HB.out hw176_10), (co HB.out hw176_11), (co HB.out hw177_0), (co HB.out hw177_1), (co HB.out hw177_2), (co HB.out hw177_3), (co HB.out hw177_4), (co HB.out hw177_5), (co HB.out hw177_6), (co HB.out hw177_7), (co HB.out hw177_8), (co HB.out hw177_9), (co HB.out hw177_10), (co HB.out hw177_11), (co HB.out hw178_0), (co HB.out hw178_1), (co HB.out hw178_2), (co HB.out hw178_3), (co HB.out hw178_4), (co HB.out hw178_5), (co HB.out hw178_6), (co HB.out hw178_7), (co HB.out hw178_8), (co HB.out hw178_9), (co HB.out hw178_10), (co HB.out hw178_11), (co HB.out hw179_0), (co HB.out hw179_1), (co HB.out hw179_2), (co HB.out hw179_3), (co HB.out hw179_4), (co HB.out hw179_5), (co HB.out hw179_6), (co HB.out hw179_7), (co HB.out hw179_8), (co HB.out hw179_9), (co HB.out hw179_10), (co HB.out hw179_11)⟩ (fun hHeld => ?_)
   clear hK K
   refine norm_ (a' := ?_) ?_ ?_
   rotate_left
   ·
    show Act.put _ (some 61) _ = _
    simp only [aw]
    rfl
   refine pure_ (i := 25) (N := some 3) (v := ?_) (a' := ?_) (tm 26 67108863) rfl rfl (zak HT_.out (by kernel_rfl)) (fun _ _ _ h => h) (Or.inl ⟨by rfl, ?_⟩) ?_ ?_
   rotate_left
   ·
    intro w'
    go_simp
    with_reducible rfl
   rotate_left
   ·
    simp only [aw]
    rfl
   refine done_ (done_of HT_.out (by kernel_rfl)) ?_
   try go_wp2
   go_roundg k1
   case measure => have := HK1.out; omega
   case rel => exact ⟨(y180), (wrap64 (x4_1 + 1)), (by first | rfl | (simp; done) | (simp [*]; done)), H', ⟨by have := HK1.out; omega⟩, ⟨by (with_reducible repeat (first | apply Kd.S_alloc | apply Kd.S_drewN | apply Kd.S_drew)); exact HO182.out⟩, ⟨by repeat with_reducible first | exact HB.out | apply zae | apply zac | apply zad | refine zah ?_ GE168.out | refine zah ?_ GE175.out⟩⟩

end Go.Proofs.YtdmlgligljagoaaDoor.PS

set_option linter.unusedVariables false
set_option linter.unusedSimpArgs false
namespace Go.Proofs.YtdmlgligljagoaaDoor
open Go.RowKit Go.Proofs.YtdmlgligljagoaaDoorW.PrintWords PS

def toldS (s : S34) : S55 := ⟨s.f0, s.f1, s.f2, s.f3, s.f4, s.f5, s.f6, s.f7⟩
def toldC (c : S36) : S57 := ⟨c.f0, c.f1, c.f2, toldS c.f3, c.f4⟩
def givnS (s : S55) : S34 := ⟨s.f0, s.f1, s.f2, s.f3, s.f4, s.f5, s.f6, s.f7⟩
def givnC (c : S57) : S36 := ⟨c.f0, c.f1, c.f2, givnS c.f3, c.f4⟩
/-- lists short enough for the machine -/
def Short (l : List S36) : Prop := l.length ≤ 4294967296 ∧ ∀ c ∈ l, c.f3.f4.length ≤ 4294967296 ∧ c.f3.f7.length ≤ 4294967296
theorem rdK_get (l : List S36) (i : Nat) (h : i < l.length) : zaf l (i : Int) = l[i]'h := by unfold zaf; simp [h]
theorem told_go (l : List S36) (h : Short l) : ∀ d i (acc : List S57), i + d = l.length → acc.length = i →
    Ev (fun k => cofferlaw22_told.l0 k l acc (i : Int)) (acc ++ (l.drop i).map toldC) := by
  obtain ⟨h0, h1⟩ := h
  intro d
  induction d with
  | zero =>
    intro i acc hi ha
    refine Ev.step (f := fun _ => some _) (fun k => ?_) (Ev.now _)
    rw [cofferlaw22_told.l0, if_neg (by omega), List.drop_of_length_le (by omega)]
    simp
  | succ d ih =>
    intro i acc hi ha
    have hlt : i < l.length := by omega
    have hr := rdK_get l i hlt
    obtain ⟨h4, h7⟩ := h1 _ (List.getElem_mem hlt)
    rw [List.drop_eq_getElem_cons hlt, List.map_cons]
    have hn := ih (i + 1) (acc ++ [toldC (l[i]'hlt)]) (by omega) (by simp; omega)
    rw [List.append_assoc] at hn
    refine Ev.step (fun k => ?_) hn
    rw [cofferlaw22_told.l0, if_pos (by omega), if_pos (by omega), hr, if_pos (by simp; omega), if_pos (by simp; omega), if_pos (by omega), w64s (by omega)]
    rfl
theorem told_ev (l : List S36) (h : Short l) : Ev (fun k => cofferlaw22_told.f k l) (l.map toldC) := by
  have := told_go l h l.length 0 [] (by omega) rfl
  rw [List.drop_zero, List.nil_append] at this
  exact this
theorem clean_short {l : List S36} (h : ∀ c ∈ l, Clean 8192 c) (hn : l.length ≤ 1024) : Short l :=
  ⟨by omega, fun c hc => by have h4 := (h c hc).st.n4; have h7 := (h c hc).st.n7; omega⟩
theorem parse_short {s : List UInt8} {l : List S36} (h : parseV s = (l, 0)) : Short l := by
  obtain ⟨h1, h2⟩ := parse_clean h
  exact clean_short h1 h2
end Go.Proofs.YtdmlgligljagoaaDoor

set_option linter.unusedVariables false
set_option linter.unusedSimpArgs false
namespace Go.Proofs.YtdmlgligljagoaaDoor
open Go.RowKit Go.Proofs.YtdmlgligljagoaaDoorW.PrintWords PS
theorem unm_gvM (x : S57) : unm (gvM x) = givnC x := by
  unfold unm gvM givnC givnS
  simp
theorem Given.plain {w : World} {base : Nat} {ok : Nat → Prop} {A : Option Addr} {c : Nat} {l : List S57} (h : Given w base ok A c l) : Kd.S k36 36 w base ok (.slice A l.length c) (l.map givnC) := by
  have h1 := Kd.S_take (m := l.length) h (by simp)
  rw [List.take_left' (by simp)] at h1
  have h2 := S_map (d := kmC) (d' := k36) unm rfl (fun _ _ _ _ _ hm => kmC_unm hm) h1
  rw [List.map_map, show unm ∘ gvM = givnC from funext unm_gvM] at h2
  exact h2
theorem Given.below {w w1 : World} {base : Nat} {ok : Nat → Prop} {A : Option Addr} {c : Nat} {l : List S57} (h : Given w base ok A c l) (hb : Below w.heap.size w w1) : Given w1 base ok A c l := by
  unfold Given at h ⊢
  exact Kd.S_below h hb
theorem Given.form {w : World} {base : Nat} {ok : Nat → Prop} {A : Option Addr} {c : Nat} {l : List S57} (h : Given w base ok A c l) : ∃ g, A = some ⟨g, 0, none⟩ ∧ l.length + 1 ≤ c := by
  unfold Given at h
  have h2 := (Kd.S_reads' h).2.1
  obtain ⟨g, cap, hv, _⟩ := Kd.S_form h (by simp)
  injection hv with hv _ _
  exact ⟨g, hv, h2⟩
end Go.Proofs.YtdmlgligljagoaaDoor

set_option linter.unusedVariables false
set_option linter.unusedSimpArgs false
namespace Go.Proofs.YtdmlgligljagoaaDoor
open Go.RowKit

theorem I64_of_wf {n : Int} (h : (Lit.int .i64 n).wf = true) : I64 n := by
  simp only [Lit.wf, IntKind.min, IntKind.max, IntKind.signed, IntKind.bits, Bool.and_eq_true, decide_eq_true_eq, if_true] at h
  unfold I64
  obtain ⟨h1, h2⟩ := h
  exact ⟨by simpa using h1, by have := h2; simp at this; omega⟩
end Go.Proofs.YtdmlgligljagoaaDoor

set_option linter.unusedVariables false
set_option linter.unusedSimpArgs false
namespace Go.Proofs.YtdmlgligljagoaaDoor
open Go.ChangeShapes Go.WideShapes Go.ChangeAt Go.RowKit
theorem own : ownKnob Tryd.prog.godebug = none := by kernel_rfl
theorem laidOut : laidOutB Tryd.prog = true := by kernel_rfl
theorem trodAll_below {H : Type} {enc : TypeId × Value → H} {W W' : World} (hb : Below W.heap.size W W') : ∀ (ts : List TypeId) (vs : List Value) (ds : List (DataW H)) (ps : List MemPlace),
    (∀ t ∈ ts, Tryd.prog.readableRec t = true ∧ t < Tryd.prog.types.size) → DataW.TrodAll enc Tryd.prog W 0 (fun _ => true) true ts vs ds ps → (∀ x ∈ ps, x.block < W.heap.size) →
    DataW.TrodAll enc Tryd.prog W' 0 (fun b => decide (b < W.heap.size)) true ts vs ds ps
  | [], [], [], _, _, h, _ => h
  | t :: ts, v :: vs, d :: ds, ps, hr, ⟨p, q, h1, h2, e⟩, hlt => by
    subst e
    have ht := hr t List.mem_cons_self
    exact ⟨p, q, Below.trod laidOut ht.1 ht.2 h1 hb (fun x hx => hlt x (List.mem_append_left _ hx)), trodAll_below hb ts vs ds q (fun x hx => hr x (List.mem_cons_of_mem _ hx)) h2 (fun x hx => hlt x (List.mem_append_right _ hx)), rfl⟩
  | [], _ :: _, _, _, _, h, _ => h.elim
  | [], [], _ :: _, _, _, h, _ => h.elim
  | _ :: _, [], _, _, _, h, _ => h.elim
  | _ :: _, _ :: _, [], _, _, h, _ => h.elim
theorem law_post {H : Type} {enc : TypeId × Value → H} {s : ChangeSpec} {f : Func} {apart fresh handsOn : Bool} {W W' : World} {args : Array Value} {ds gs : List (DataW H)} {before : List MemPlace} {tb : TypeId}
    (hvars : s.vars = []) (hr : ∀ t ∈ f.params.toList, Tryd.prog.readableRec t = true ∧ t < Tryd.prog.types.size) (hres : f.resultTypes = #[tb]) (hbool : Tryd.prog.underlying tb = some .bool)
    (hfn : (s.fn H (ds ++ gs)).results = [.lit (.bool true)] ∧ (s.fn H (ds ++ gs)).args = ds ∧ (s.fn H (ds ++ gs)).vars = [])
    (hW : DataW.Whole enc Tryd.prog f.params.toList s.vars apart W args.toList ds gs before) (hb : Below W.heap.size W W') :
    s.post enc Tryd.prog f apart fresh handsOn false W args (.bool true) W' := by
  have hW' := hW
  have hlt := hW.lt
  obtain ⟨p, q, hA, hV, rfl, hfz, hnd⟩ := hW
  refine ⟨ds, gs, _, [], p, [], hW', ?_, ?_, ?_, hb.frame _, fun h => by cases h⟩
  · rw [hfn.1, hres]
    exact trodAll_mk1 (shut_bool hbool true)
  · rw [hfn.2.1]
    exact trodAll_below hb _ _ _ _ hr hA (fun x hx => hlt x (List.mem_append_left _ hx))
  · rw [hfn.2.2, hvars]
    rfl
theorem tab_of_vars {P : Program} {W : World} {name : String} {k : IntKind} {zs : List Int} {rest : List (String × DataW Unit)} {ps : List MemPlace} {g : Nat} {t e : TypeId} {n : Nat}
    (hg : P.globalNamed name = some g) (hty : (P.globals[g]?).map (·.type) = some t) (ht : P.underlying t = some (.array n e)) (he : P.underlying e = some (.int k)) (hce : P.cellsOf e = 1) (hct : P.cellsOf t = n)
    (h : DataW.LaidVars P W ((name, Lib.tabData k zs) :: rest) ps) : Lib.TabIs P W name k zs := by
  obtain ⟨g', t', cs, fuel, p, q, hg', ht', hvar, hd, _⟩ := h
  obtain rfl := Option.some.inj (hg.symm.trans hg')
  obtain rfl := Option.some.inj (hty.symm.trans ht')
  unfold Lib.TabIs
  rw [hvar, ← Lib.cells_of_tab ht he hce hct hd]
end Go.Proofs.YtdmlgligljagoaaDoor

set_option linter.unusedVariables false
set_option linter.unusedSimpArgs false
namespace Go.Proofs.YtdmlgligljagoaaDoor
open Go.RowKit Go.ChangeShapes Go.WideShapes Go.Deep Go.Proofs.YtdmlgligljagoaaDoorW.PrintWords PS
theorem rdQ_get (l : List S57) (i : Nat) (h : i < l.length) : rd_T57 l (i : Int) = l[i]'h := by unfold rd_T57; simp [h]
theorem bulk_app {H : Type} (a b : List (DataW H)) : Rows.uptoBulkAll (a ++ b) = Rows.uptoBulkAll a + Rows.uptoBulkAll b := by
  induction a with
  | nil => simp [Rows.uptoBulkAll]
  | cons x r ih => rw [List.cons_append, Rows.uptoBulkAll, Rows.uptoBulkAll, ih]; omega
section
variable {H : Type} {enc : TypeId × Value → H} {w : World} {base : Nat} {spare : Nat → Bool} {held : Bool}
theorem open_rowsB {α : Type} (d : Kd α) {t e : TypeId} {fuel : Nat} {cs : List Value} {x : DataW H × List MemPlace} (ht : Tryd.prog.underlying t = some (.slice e)) (hC : Tryd.prog.cellsOf e = d.sz) (Q : α → Prop) (wt : α → Nat)
    (hel : ∀ n cs' y, DataW.trod enc Tryd.prog w base spare held n e cs' = some y → ∃ a, d.K w a cs' ∧ Q a ∧ wt a ≤ Rows.uptoBulk y.1)
    (h : DataW.trod enc Tryd.prog w base spare held fuel t cs = some x) :
    ∃ (A : Option Addr) (c : Nat) (l : List α), cs = [.slice A l.length c] ∧ l.length ≤ c ∧ d.C w A l.length l ∧ (l.map wt).sum + 1 ≤ Rows.uptoBulk x.1 ∧ ∀ a ∈ l, Q a := by
  rcases open_slice ht h with ⟨hcs, rfl⟩ | ⟨a, len, cap, m, n, D, Pl, hcs, hb, hl, hm, hmm, hx, hi⟩
  · exact ⟨none, 0, [], hcs, Nat.le_refl _, ⟨rfl, by simp, fun h => absurd h (by simp)⟩, by simp [Rows.uptoBulk], fun a ha => by cases ha⟩
  · subst hx
    have hlm : len ≤ m := by rw [hmm]; split <;> omega
    have key : ∀ i : Nat, ∃ p : Option α, i < len → ∃ q cs', p = some q ∧ d.K w q cs' ∧ Q q ∧ wt q ≤ Rows.uptoBulk (D i) ∧ cs'.length = d.sz ∧ ∀ j u, cs'[j]? = some u → w.cell? (a.add (i * d.sz + j)) = some u := fun i => by
      by_cases hlt : i < len
      · obtain ⟨cs', hc, ht'⟩ := hi i (by omega)
        obtain ⟨q, hk, hq, hwt⟩ := hel n cs' _ ht'
        obtain ⟨_, hcl, hat⟩ := World.cells?_some hc
        refine ⟨some q, fun _ => ⟨q, cs', rfl, hk, hq, hwt, by rw [hcl, hC], fun j u hu => ?_⟩⟩
        have hj : j < cs'.length := by
          rcases Nat.lt_or_ge j cs'.length with h | h
          · exact h
          · rw [List.getElem?_eq_none h] at hu; cases hu
        rw [← hC, ← Go.Deep.add_add, hat j (by omega), hu]
      · exact ⟨none, fun h => absurd h hlt⟩
    obtain ⟨f, hf⟩ := Classical.axiomOfChoice key
    have hall : ∀ k, k ≤ len → ((List.range k).filterMap f).length = k ∧ (((List.range k).filterMap f).map wt).sum ≤ Rows.uptoBulkAll ((List.range k).map D) ∧ ∀ i, i < k → ((List.range k).filterMap f)[i]? = f i := by
      intro k
      induction k with
      | zero => intro _; exact ⟨rfl, by simp, fun i hi => absurd hi (Nat.not_lt_zero _)⟩
      | succ k ih =>
        intro hk
        obtain ⟨h1, h3, h2⟩ := ih (by omega)
        obtain ⟨q, _, e, _, _, hwt, _⟩ := hf k (by omega)
        rw [List.range_succ, List.filterMap_append]
        have e1 : List.filterMap f [k] = [q] := by simp [e]
        rw [e1]
        refine ⟨by rw [List.length_append, h1]; rfl, ?_, fun i hi => ?_⟩
        · rw [List.map_append, List.sum_append, List.map_append, bulk_app]
          simp only [List.map_cons, List.map_nil, List.sum_cons, List.sum_nil, Rows.uptoBulkAll]
          omega
        · rcases Nat.lt_or_ge i k with h | h
          · rw [List.getElem?_append_left (by omega)]; exact h2 i h
          · obtain rfl : i = k := by omega
            rw [List.getElem?_append_right (by omega), h1, Nat.sub_self, e]; rfl
    have hlen := hall len (Nat.le_refl _)
    refine ⟨some a, cap, (List.range len).filterMap f, by rw [hlen.1]; exact hcs, by rw [hlen.1]; exact hl, ?_, ?_, ?_⟩
    · rw [hlen.1]
      refine ⟨hlen.1, by have : maxLen = 9223372036854775807 := rfl; omega, fun _ => ⟨a, rfl, fun j p hj => ?_⟩⟩
      have hjl : j < len := by
        rcases Nat.lt_or_ge j len with h | h
        · exact h
        · rw [List.getElem?_eq_none (by rw [hlen.1]; exact h)] at hj; cases hj
      rw [hlen.2.2 j hjl] at hj
      obtain ⟨q, cs', e, hk, hq, _, hcl, hat⟩ := hf j hjl
      rw [e] at hj
      cases hj
      exact ⟨cs', hcl, hk, hat⟩
    · have := hlen.2.1
      simp only [Rows.uptoBulk]
      omega
    · intro z hz
      obtain ⟨i, hi, hzi⟩ := List.getElem_of_mem hz
      have hil : i < len := by rw [hlen.1] at hi; exact hi
      have h3 := hlen.2.2 i hil
      rw [List.getElem?_eq_getElem hi, hzi] at h3
      obtain ⟨q, cs', e, hk, hq, _⟩ := hf i hil
      rw [e] at h3
      cases h3
      exact hq
theorem open_textB {n : Nat} {v : Value} {y : DataW H × List MemPlace} (h : DataW.trod enc Tryd.prog w base spare held n 9 [v] = some y) : ∃ s : ByteArray, v = .string s ∧ s.size + 1 ≤ Rows.uptoBulk y.1 := by
  obtain ⟨s, e, rfl, _⟩ := DataW.trod_string Tryd.underlying9 h
  cases e
  refine ⟨s, rfl, ?_⟩
  simp only [Rows.uptoBulk]
  rw [Array.length_toList]
  exact Nat.le_refl _
theorem open_intB {n : Nat} {v : Value} {y : DataW H × List MemPlace} (h : DataW.trod enc Tryd.prog w base spare held n 3 [v] = some y) : ∃ z : Int, v = .int .i64 z ∧ I64 z ∧ 1 ≤ Rows.uptoBulk y.1 := by
  obtain ⟨z, e, rfl, hz⟩ := DataW.trod_int Tryd.underlying3 h
  cases e
  exact ⟨z, rfl, I64_of_wf hz, by simp [Rows.uptoBulk]⟩
theorem open_int64B {n : Nat} {v : Value} {y : DataW H × List MemPlace} (h : DataW.trod enc Tryd.prog w base spare held n 2 [v] = some y) : ∃ z : Int, v = .int .i64 z ∧ I64 z ∧ 1 ≤ Rows.uptoBulk y.1 := by
  obtain ⟨z, e, rfl, hz⟩ := DataW.trod_int Tryd.underlying2 h
  cases e
  exact ⟨z, rfl, I64_of_wf hz, by simp [Rows.uptoBulk]⟩
def wP2 (p : S38) : Nat := p.f0.size + p.f1.size + 3
set_option maxRecDepth 100000 in
theorem open_pairB {n : Nat} {cs : List Value} {y : DataW H × List MemPlace} (h : DataW.trod enc Tryd.prog w base spare held n 38 cs = some y) : ∃ p : S38, k38.K w p cs ∧ True ∧ wP2 p ≤ Rows.uptoBulk y.1 := by
  have hC : Tryd.prog.cellsOf 38 = 2 := by kernel_rfl
  obtain ⟨ys, m, _, hx, hcl, hlen, hg⟩ := DataW.trod_struct Tryd.underlying38 h
  have k0 : Tryd.prog.cellsOf 9 = 1 := by kernel_rfl
  match cs, hcl.trans hC, ys, hlen with
  | [c0, c1], _, [y0, y1], _ =>
    subst hx
    have g0 : DataW.trod enc Tryd.prog w base spare held m 9 [c0] = some y0 := by simpa [k0] using hg 0 _ rfl
    have g1 : DataW.trod enc Tryd.prog w base spare held m 9 [c1] = some y1 := by simpa [k0] using hg 1 _ rfl
    obtain ⟨a, rfl, ha⟩ := open_textB g0
    obtain ⟨b, rfl, hb⟩ := open_textB g1
    refine ⟨⟨a, b⟩, k38_mk w ⟨a, b⟩, trivial, ?_⟩
    simp only [Rows.uptoBulk, Rows.uptoBulkAll, List.map_cons, List.map_nil, wP2]
    omega
def wS (s : S55) : Nat := s.f1.size + s.f2.size + s.f3.size + (s.f4.map wP2).sum + s.f7.length + 9
def wC (c : S57) : Nat := wS c.f3 + c.f4.size + 5
def StIn (s : S55) : Prop := I64 s.f0 ∧ I64 s.f5 ∧ I64 s.f6 ∧ ∀ x ∈ s.f7, I64 x
def CmIn (c : S57) : Prop := I64 c.f0 ∧ I64 c.f1 ∧ I64 c.f2 ∧ StIn c.f3
theorem sum_ones {α : Type} (l : List α) : (l.map fun _ => 1).sum = l.length := by induction l with | nil => rfl | cons _ r ih => simp [ih]; omega
set_option maxRecDepth 100000 in
set_option maxHeartbeats 1000000 in
theorem open_stepB {n : Nat} {cs : List Value} {y : DataW H × List MemPlace} (h : DataW.trod enc Tryd.prog w base spare held n 55 cs = some y) : ∃ s : S55, k55.K w s cs ∧ StIn s ∧ wS s ≤ Rows.uptoBulk y.1 := by
  have hC : Tryd.prog.cellsOf 55 = 8 := by kernel_rfl
  obtain ⟨ys, m, _, hx, hcl, hlen, hg⟩ := DataW.trod_struct Tryd.underlying55 h
  have k0 : Tryd.prog.cellsOf 9 = 1 := by kernel_rfl
  have k1 : Tryd.prog.cellsOf 3 = 1 := by kernel_rfl
  have k2 : Tryd.prog.cellsOf 2 = 1 := by kernel_rfl
  have k3 : Tryd.prog.cellsOf 31 = 1 := by kernel_rfl
  have k4 : Tryd.prog.cellsOf 32 = 1 := by kernel_rfl
  match cs, hcl.trans hC, ys, hlen with
  | [c0, c1, c2, c3, c4, c5, c6, c7], _, [y0, y1, y2, y3, y4, y5, y6, y7], _ =>
    subst hx
    have g0 : DataW.trod enc Tryd.prog w base spare held m 3 [c0] = some y0 := by simpa [k1] using hg 0 _ rfl
    have g1 : DataW.trod enc Tryd.prog w base spare held m 9 [c1] = some y1 := by simpa [k0] using hg 1 _ rfl
    have g2 : DataW.trod enc Tryd.prog w base spare held m 9 [c2] = some y2 := by simpa [k0] using hg 2 _ rfl
    have g3 : DataW.trod enc Tryd.prog w base spare held m 9 [c3] = some y3 := by simpa [k0] using hg 3 _ rfl
    have g4 : DataW.trod enc Tryd.prog w base spare held m 31 [c4] = some y4 := by simpa [k3] using hg 4 _ rfl
    have g5 : DataW.trod enc Tryd.prog w base spare held m 2 [c5] = some y5 := by simpa [k2] using hg 5 _ rfl
    have g6 : DataW.trod enc Tryd.prog w base spare held m 3 [c6] = some y6 := by simpa [k1] using hg 6 _ rfl
    have g7 : DataW.trod enc Tryd.prog w base spare held m 32 [c7] = some y7 := by simpa [k4] using hg 7 _ rfl
    obtain ⟨z0, rfl, i0, b0⟩ := open_intB g0
    obtain ⟨s1, rfl, b1⟩ := open_textB g1
    obtain ⟨s2, rfl, b2⟩ := open_textB g2
    obtain ⟨s3, rfl, b3⟩ := open_textB g3
    obtain ⟨A4, c4', l4, e4, n4, r4, b4, q4⟩ := open_rowsB k38 Tryd.underlying31 (by kernel_rfl) (fun _ => True) wP2 (fun n cs' y h => open_pairB h) g4
    obtain ⟨z5, rfl, i5, b5⟩ := open_int64B g5
    obtain ⟨z6, rfl, i6, b6⟩ := open_intB g6
    obtain ⟨A7, c7', l7, e7, n7, r7, b7, q7⟩ := open_rowsB (Kd.int .i64) Tryd.underlying32 (by kernel_rfl) I64 (fun _ => 1) (fun n cs' y h => by
      have hl := DataW.trod_int Tryd.underlying3 h
      obtain ⟨z, e, rfl, hz⟩ := hl
      exact ⟨z, e, I64_of_wf hz, by simp [Rows.uptoBulk]⟩) g7
    cases e4
    cases e7
    refine ⟨⟨z0, s1, s2, s3, l4, z5, z6, l7⟩, k55_mk w ⟨z0, s1, s2, s3, l4, z5, z6, l7⟩ n4 r4 n7 r7, ⟨i0, i5, i6, q7⟩, ?_⟩
    rw [sum_ones] at b7
    simp only [Rows.uptoBulk, Rows.uptoBulkAll, List.map_cons, List.map_nil, wS]
    omega
set_option maxRecDepth 100000 in
set_option maxHeartbeats 1000000 in
theorem open_cmdB {n : Nat} {cs : List Value} {y : DataW H × List MemPlace} (h : DataW.trod enc Tryd.prog w base spare held n 57 cs = some y) : ∃ c : S57, k57.K w c cs ∧ CmIn c ∧ wC c ≤ Rows.uptoBulk y.1 := by
  have hC : Tryd.prog.cellsOf 57 = 12 := by kernel_rfl
  obtain ⟨ys, m, _, hx, hcl, hlen, hg⟩ := DataW.trod_struct Tryd.underlying57 h
  have k0 : Tryd.prog.cellsOf 9 = 1 := by kernel_rfl
  have k1 : Tryd.prog.cellsOf 3 = 1 := by kernel_rfl
  have k2 : Tryd.prog.cellsOf 55 = 8 := by kernel_rfl
  match cs, hcl.trans hC, ys, hlen with
  | [c0, c1, c2, c3, c4, c5, c6, c7, c8, c9, c10, c11], _, [y0, y1, y2, y3, y4], _ =>
    subst hx
    have g0 : DataW.trod enc Tryd.prog w base spare held m 3 [c0] = some y0 := by simpa [k1] using hg 0 _ rfl
    have g1 : DataW.trod enc Tryd.prog w base spare held m 3 [c1] = some y1 := by simpa [k1] using hg 1 _ rfl
    have g2 : DataW.trod enc Tryd.prog w base spare held m 3 [c2] = some y2 := by simpa [k1] using hg 2 _ rfl
    have g3 : DataW.trod enc Tryd.prog w base spare held m 55 [c3, c4, c5, c6, c7, c8, c9, c10] = some y3 := by simpa [k2] using hg 3 _ rfl
    have g4 : DataW.trod enc Tryd.prog w base spare held m 9 [c11] = some y4 := by simpa [k0] using hg 4 _ rfl
    obtain ⟨z0, rfl, i0, b0⟩ := open_intB g0
    obtain ⟨z1, rfl, i1, b1⟩ := open_intB g1
    obtain ⟨z2, rfl, i2, b2⟩ := open_intB g2
    obtain ⟨s, hK, hS, b3⟩ := open_stepB g3
    obtain ⟨t4, rfl, b4⟩ := open_textB g4
    refine ⟨⟨z0, z1, z2, s, t4⟩, ?_, ⟨i0, i1, i2, hS⟩, ?_⟩
    · obtain ⟨A4, a4, A7, a7, e, n4, r4, n7, r7⟩ := k55_open hK
      cases e
      exact k57_mk w ⟨z0, z1, z2, s, t4⟩ n4 r4 n7 r7
    · simp only [Rows.uptoBulk, Rows.uptoBulkAll, List.map_cons, List.map_nil, wC]
      omega
set_option maxRecDepth 100000 in
/-- the argument -/
theorem open_cmds {r : Reach} {b0 : Nat} {v : Value} {d : DataW H} {p : List MemPlace} (hv : Value.okWide Tryd.prog w r b0 22 v) (h : DataW.Trod enc Tryd.prog w base spare held 22 v d p) :
    ∃ (A : Option Addr) (c : Nat) (l : List S57), v = .slice A l.length c ∧ l.length ≤ c ∧ Kd.C k57 w A l.length l ∧ (l.map wC).sum + 1 ≤ Rows.uptoBulk d ∧ ∀ x ∈ l, CmIn x := by
  obtain ⟨a, n, m, rfl⟩ := okWide_slice Tryd.underlying22 hv
  obtain ⟨fuel, hf⟩ := h
  obtain ⟨A, c, l, e, r⟩ := open_rowsB k57 Tryd.underlying22 (by kernel_rfl) CmIn wC (fun n cs' y h => open_cmdB h) hf
  have e2 : [Value.slice a n m] = [.slice A l.length c] := e
  cases e2
  exact ⟨_, _, l, rfl, r⟩
end
end Go.Proofs.YtdmlgligljagoaaDoor

namespace Go.Proofs.YtdmlgligljagoaaDoor.PS
open Go.RowKit Go.Proofs.YtdmlgligljagoaaDoorW.PrintWords Go.Proofs.YtdmlgligljagoaaDoorW.PrintLast Go.Proofs.YtdmlgligljagoaaDoorW.PrintMore
attribute [local go_sem] zbg zbh max_two min_two zbe zbf zbi zbj   -- for this text's walks alone
set_option linter.unusedVariables false
set_option linter.unusedSimpArgs false

/-! ### cofferlaw22_given: function 9 -/
end Go.Proofs.YtdmlgligljagoaaDoor.PS

set_option linter.unusedVariables false
set_option linter.unusedSimpArgs false
namespace Go.Proofs.YtdmlgligljagoaaDoor
open Go.RowKit Go.Proofs.YtdmlgligljagoaaDoorW.PrintWords PS

theorem wC_mem {l : List S57} {x : S57} (h : x ∈ l) : wC x ≤ (l.map wC).sum := by
  induction l with
  | nil => cases h
  | cons y r ih =>
    rw [List.map_cons, List.sum_cons]
    rcases List.mem_cons.1 h with rfl | h
    · omega
    · have := ih h; omega
theorem wC_len (l : List S57) : l.length ≤ (l.map wC).sum := by
  induction l with
  | nil => simp
  | cons y r ih =>
    have h1 : 1 ≤ wC y := by unfold wC; omega
    rw [List.map_cons, List.sum_cons, List.length_cons]; omega
theorem wP_len (l : List S38) : l.length ≤ (l.map wP2).sum := by
  induction l with
  | nil => simp
  | cons y r ih =>
    have h1 : 1 ≤ wP2 y := by unfold wP2; omega
    rw [List.map_cons, List.sum_cons, List.length_cons]; omega
theorem meta_len {c : S57} : c.f3.f4.length ≤ wC c ∧ c.f3.f7.length ≤ wC c := by
  have := wP_len c.f3.f4
  unfold wC wS
  omega
/-! what a command's line may take -/
theorem itoa_21 {n : Int} (h : I64 n) : (Lib.itoa n).length ≤ 21 := by
  have := Lib.itoa_length_le n h.1 h.2
  omega
theorem quote_bs_len (b : ByteArray) : (zau b.data.toList).length ≤ 4 * b.size + 2 := by
  have := (quoteL_len b.data.toList).2
  rw [Lib.size_eq]
  exact this
def szs (l : List ByteArray) : Nat := (l.map fun b => b.size + 1).sum
theorem szs_app (a b : List ByteArray) : szs (a ++ b) = szs a + szs b := by unfold szs; rw [List.map_append, List.sum_append]
theorem szs_cons (a : ByteArray) (b : List ByteArray) : szs (a :: b) = a.size + 1 + szs b := by unfold szs; rw [List.map_cons, List.sum_cons]
theorem join_sz (l : List ByteArray) : (joinSp l).data.toList.length ≤ szs l := by
  unfold joinSp
  rw [zbc]
  induction l with
  | nil => simp [Lib.join, List.intercalate]
  | cons a r ih =>
    rw [szs_cons]
    cases r with
    | nil =>
      rw [List.map_cons, List.map_nil, Lib.join_one]
      have := Lib.size_eq a
      omega
    | cons b r =>
      have e : (Lib.join ((a :: b :: r).map (·.data.toList)) [32]).length = a.data.toList.length + 1 + (Lib.join ((b :: r).map (·.data.toList)) [32]).length := by
        simp [Lib.join, List.intercalate, List.intersperse]
        omega
      rw [e]
      have := Lib.size_eq a
      omega
theorem pairs_sz (l : List S38) : szs (l.flatMap pairT) ≤ 4 * (l.map wP2).sum := by
  induction l with
  | nil => simp [szs]
  | cons p r ih =>
    rw [List.flatMap_cons, szs_app, List.map_cons, List.sum_cons]
    have h0 := quote_bs_len p.f0
    have h1 := quote_bs_len p.f1
    have h2 : szs [] = 0 := rfl
    have h4 : szs (pairT p) = (zau p.f0.data.toList).length + 1 + ((zau p.f1.data.toList).length + 1 + 0) := by
      unfold pairT
      rw [szs_cons, szs_cons, zao, zao, h2]
    have h3 : wP2 p = p.f0.size + p.f1.size + 3 := rfl
    omega
theorem nums_sz (l : List Int) (h : ∀ x ∈ l, I64 x) : szs (l.map fun n => bs (Lib.itoa n)) ≤ 22 * l.length := by
  induction l with
  | nil => simp [szs]
  | cons p r ih =>
    have h0 := itoa_21 (h p List.mem_cons_self)
    have h1 := ih (fun x hx => h x (List.mem_cons_of_mem _ hx))
    rw [List.map_cons, szs_cons, zao, List.length_cons]
    omega
theorem part_sz (c : Nat) (s : S55) (h : StIn s) : szs (partV c (givnS s)) ≤ 22 * wS s := by
  obtain ⟨_, i5, i6, i7⟩ := h
  have q1 := quote_bs_len s.f1
  have q2 := quote_bs_len s.f2
  have q3 := quote_bs_len s.f3
  have n5 := itoa_21 i5
  have n6 := itoa_21 i6
  have p4 := pairs_sz s.f4
  have p7 := nums_sz s.f7 i7
  have hs : szs [] = 0 := rfl
  unfold partV givnS
  dsimp only
  repeat' split
  all_goals try (rw [szs_cons, zao, hs]; unfold wS; omega)
  · unfold wS; omega
  · unfold wS; omega
theorem parts_sz (f : List UInt8) (s : S55) (h : StIn s) : szs (partsV f (givnS s)) ≤ f.length * (22 * wS s) := by
  unfold partsV
  induction f with
  | nil => simp [szs]
  | cons c r ih =>
    rw [List.flatMap_cons, szs_app, List.length_cons, Nat.succ_mul]
    have := part_sz c.toNat s h
    omega
theorem form_szs (k : Int) : ∃ w f, script_formOf.f k = some (w, f) ∧ w.size ≤ 8 ∧ f.data.toList.length ≤ 4 := by
  have hc : (k = 1 ∨ k = 2 ∨ k = 3 ∨ k = 4 ∨ k = 5 ∨ k = 6 ∨ k = 7 ∨ k = 8 ∨ k = 9 ∨ k = 10 ∨ k = 11 ∨ k = 12 ∨ k = 13 ∨ k = 14 ∨ k = 15 ∨ k = 16 ∨ k = 17 ∨ k = 18) ∨ (k < 1 ∨ 18 < k) := by omega
  rcases hc with hc | hc
  · rcases hc with rfl | rfl | rfl | rfl | rfl | rfl | rfl | rfl | rfl | rfl | rfl | rfl | rfl | rfl | rfl | rfl | rfl | rfl
    all_goals exact ⟨_, _, rfl, by decide, by decide⟩
  · refine ⟨⟨#[]⟩, ⟨#[]⟩, ?_, by decide, by decide⟩
    unfold script_formOf.f
    repeat rw [if_neg (by omega)]
theorem lineT_weight (c : S57) (h : CmIn c) : (lineT (givnC c)).length ≤ 100 * wC c := by
  obtain ⟨_, i1, i2, hs⟩ := h
  have n1 := itoa_21 i1
  have n2 := itoa_21 i2
  have hq := quote_bs_len c.f4
  have hw : 14 ≤ wC c := by unfold wC wS; omega
  have hw2 : c.f4.size + 14 ≤ wC c := by unfold wC wS; omega
  have hw3 : wS c.f3 + 5 ≤ wC c := by unfold wC; omega
  unfold lineT givnC
  dsimp only
  split
  · simp only [List.length_append, List.length_cons, List.length_nil]; omega
  · split
    · obtain ⟨w, f, hf, hw8, hf4⟩ := form_szs c.f3.f0
      unfold stepL
      rw [show (givnS c.f3).f0 = c.f3.f0 from rfl, hf]
      dsimp only
      have h1 := join_sz (w :: partsV f.data.toList (givnS c.f3))
      have h2 := parts_sz f.data.toList c.f3 hs
      rw [szs_cons] at h1
      have h3 : f.data.toList.length * (22 * wS c.f3) ≤ 4 * (22 * wS c.f3) := Nat.mul_le_mul_right _ hf4
      omega
    · split
      · simp only [List.length_append, List.length_cons, List.length_nil]; omega
      · split
        · simp; omega
        · split <;> simp
          omega
theorem textT_weight (l : List S57) (h : ∀ c ∈ l, CmIn c) : (textT (l.map givnC)).length ≤ 101 * (l.map wC).sum := by
  induction l with
  | nil => simp [textT]
  | cons c r ih =>
    have h1 := lineT_weight c (h c List.mem_cons_self)
    have h2 := ih (fun x hx => h x (List.mem_cons_of_mem _ hx))
    unfold textT at h2 ⊢
    rw [List.map_cons, List.flatMap_cons, List.length_append, List.length_append, List.map_cons, List.sum_cons]
    have h3 : 1 ≤ wC c := by unfold wC; omega
    simp only [List.length_cons, List.length_nil]
    omega
theorem given_print (l : List S57) (h : ∀ c ∈ l, CmIn c) (hw : (l.map wC).sum ≤ 1048576) : PrintOK (l.map givnC) := by
  refine ⟨fun c hc => ?_, by have := textT_weight l h; omega⟩
  obtain ⟨x, hx, rfl⟩ := List.mem_map.1 hc
  obtain ⟨_, i1, i2, _, i5, i6, i7⟩ := h x hx
  have h1 := lineT_weight x (h x hx)
  have h2 := wC_mem hx
  exact ⟨i1, i2, i5, i6, i7, by omega⟩
/-! the commands as they are given -/
/-! what is told of a text that is none -/
end Go.Proofs.YtdmlgligljagoaaDoor

set_option linter.unusedVariables false
set_option linter.unusedSimpArgs false
namespace Go.Proofs.YtdmlgligljagoaaDoor
open Go.RowKit PS

def valD (l : List UInt8) : Nat := l.foldl (fun a c => 10 * a + (c.toNat - 48)) 0
theorem valD_dec (u : Nat) : valD (Lib.decDigits u) = u := by
  induction u using Nat.strongRecOn with
  | ind u ih =>
    by_cases h : u < 10
    · rw [Lib.decDigits_one h]
      show 10 * 0 + ((UInt8.ofNat (48 + u)).toNat - 48) = u
      rw [dig_toNat h]; omega
    · have h10 : u % 10 < 10 := Nat.mod_lt _ (by omega)
      rw [show Lib.decDigits u = Lib.decDigits (u / 10) ++ [UInt8.ofNat (48 + u % 10)] from by rw [Lib.decDigits, dif_neg h]]
      unfold valD
      rw [List.foldl_append]
      have := ih (u / 10) (by omega)
      unfold valD at this
      rw [this]
      show 10 * (u / 10) + ((UInt8.ofNat (48 + u % 10)).toNat - 48) = u
      rw [dig_toNat h10]; omega
theorem itoa_zero_head {m : Int} {r : List UInt8} (h : Lib.itoa m = 48 :: r) : r = [] := by
  have hd : ∀ u : Nat, ∀ r, Lib.decDigits u = 48 :: r → r = [] := by
    intro u
    induction u using Nat.strongRecOn with
    | ind u ih =>
      intro r hr
      by_cases h : u < 10
      · rw [Lib.decDigits_one h] at hr
        simp only [List.cons.injEq] at hr
        exact hr.2.symm
      · rw [Lib.decDigits, dif_neg h] at hr
        obtain ⟨c, r', e', h1, _⟩ := decDigits_head (u / 10)
        rw [e', List.cons_append] at hr
        simp only [List.cons.injEq] at hr
        have hr0 := ih (u / 10) (by omega) r' (by rw [e', hr.1])
        rw [hr0, hr.1] at e'
        have := valD_dec (u / 10)
        rw [e'] at this
        have : (0 : Nat) = u / 10 := this
        omega
  unfold Lib.itoa at h
  split at h
  · simp only [List.cons.injEq] at h
    exact absurd h.1 (by decide)
  · exact hd _ _ h
def bFall : List UInt8 := [102, 97, 108, 108]
theorem fall_word : wordOf 17 = bs bFall := by decide +kernel
/-- a line that begins with 'fall' and whose other words are told -/
theorem fall_line (s : List UInt8) (r : List S88) (h : wordsV s = (wP bFall :: r, true)) : (lineV s).2 = (!(numN r false).2.2 && (numN r false).2.1.isEmpty) := by
  unfold lineV
  rw [h]
  dsimp only
  rw [cmdV, if_neg (by decide)]
  dsimp only
  obtain ⟨f, hf, _⟩ := form_word 16 (by omega)
  have e : cmdW (wP bFall).f0 r = (⟨2, 0, 0, (stepsV [110] (st0 17) r false).1, ⟨#[]⟩⟩, (stepsV [110] (st0 17) r false).2) := by
    obtain ⟨g1, g2, g3, g4, _⟩ := word_good ⟨16, by omega⟩
    dsimp only at g1 g2 g3 g4
    rw [show (wP bFall).f0 = wordOf (16 + 1) from fall_word.symm]
    unfold cmdW
    rw [if_neg g1, if_neg g2, if_neg g3, if_neg g4, cmdUp_ge 16 (by omega) f hf _ 18 (by omega) (by omega)]
    dsimp only
    have e2 : script_formOf.f ((16 + 1 : Nat) : Int) = some (wordOf 17, bs [110]) := by decide +kernel
    rw [e2] at hf
    simp only [Option.some.injEq, Prod.mk.injEq, true_and] at hf
    subst hf
    rw [zbc]
    rfl
  rw [e]
  have e3 : (stepsV [110] (st0 17) r false).2 = (numN r false).2 := rfl
  rw [e3]
  simp
theorem no_nl (s : List UInt8) (h : ∀ c ∈ s, c ≠ 10) : zas s = [s] := by
  induction s with
  | nil => rfl
  | cons c s ih =>
    rw [zas, if_neg (h c List.mem_cons_self), ih (fun d hd => h d (List.mem_cons_of_mem _ hd))]
theorem longV_one {s : List UInt8} (h : ∀ c ∈ s, c ≠ 10) (h0 : s ≠ []) (hl : s.length ≤ 8192) : longV s = false := by
  unfold longV
  rw [no_nl s h]
  have e : dropE [s] = [s] := by unfold dropE; rw [if_neg (by simpa using h0)]
  rw [e]
  simp
  omega
/-- one line -/
theorem parse_one {s : List UInt8} (h : ∀ c ∈ s, c ≠ 10) (h0 : s ≠ []) (h35 : s.head? ≠ some 35) (hl : s.length ≤ 8192) : parseV s = if (lineV s).2 = true then ([(lineV s).1], 0) else ([], 110) := by
  unfold parseV
  rw [longV_one h h0 hl, if_neg (by simp), no_nl s h, parseG, if_neg (by simp [h0, h35])]
  split
  · rfl
  · rfl
theorem words_tail (s : List UInt8) (h : ∀ c ∈ s, c ≠ 32) (h0 : s ≠ []) (h34 : s.head? ≠ some 34) (n : Nat) : wordsL (n + 1) s = ([⟨bs s, false⟩], true) := by
  have := words_step n ⟨bs s, false⟩ (.inr ⟨by rw [zbc]; exact h0, by rw [zbc]; exact h, by rw [zbc]; exact h34⟩) [] (.inl rfl)
  unfold tokT at this
  rw [if_neg (by simp), zbc, List.append_nil] at this
  rw [this]; rfl
theorem words_fall (n : Nat) (b : List UInt8) : wordsL (n + 1) (bFall ++ 32 :: b) = if (wordsL n b).2 = true then (wP bFall :: (wordsL n b).1, true) else ([], false) := by
  have := words_step n (wP bFall) (ok_wd (by decide) (by decide)) (32 :: b) (.inr ⟨_, rfl⟩)
  rw [tokT_wP] at this
  rw [this, aftW, if_pos rfl]
theorem fall_one (s : List UInt8) (h : ∀ c ∈ s, c ≠ 32) (h0 : s ≠ []) (h34 : s.head? ≠ some 34) : wordsV (bFall ++ 32 :: s) = (wP bFall :: [⟨bs s, false⟩], true) := by
  unfold wordsV
  rw [words_fall, show (bFall ++ 32 :: s).length = (s.length + 4) + 1 from by simp [bFall], words_tail s h h0 h34, if_pos rfl]
/-- one number's word that is none -/
theorem fall_bad (s : List UInt8) (h : ∀ c ∈ s, c ≠ 32) (h0 : s ≠ []) (h34 : s.head? ≠ some 34) (hb : ∀ m, I64 m → s ≠ Lib.itoa m) : (lineV (bFall ++ 32 :: s)).2 = false := by
  rw [fall_line _ _ (fall_one s h h0 h34)]
  have hn : (numV ⟨bs s, false⟩).2 = false := by
    rw [Bool.eq_false_iff]
    intro hc
    obtain ⟨_, h2, h3⟩ := numV_ok hc
    exact hb _ h3 (bs_inj h2)
  unfold numN
  rw [nextV_hit [] false (show (⟨bs s, false⟩ : S88).f1 = false from rfl)]
  dsimp only
  rw [hn]
  rfl
end Go.Proofs.YtdmlgligljagoaaDoor

set_option linter.unusedVariables false
set_option linter.unusedSimpArgs false
namespace Go.Proofs.YtdmlgligljagoaaDoor
open Go.RowKit Go.Proofs.YtdmlgligljagoaaDoorW.PrintWords PS

theorem itoa_digit (n : Nat) (h : n < 10) : Lib.itoa (n : Int) = [UInt8.ofNat (48 + n)] := by rw [Lib.itoa_nonneg, Lib.decDigits_one h]
theorem itoa_m1 : Lib.itoa (-1) = [45, 49] := by
  have := Lib.itoa_neg 1 (by omega)
  rw [show (-((1 : Nat) : Int)) = -1 from rfl] at this
  rw [this, Lib.decDigits_one (by omega)]; rfl
def fc1 : S36 := ⟨2, 0, 0, ⟨1, ⟨#[97]⟩, ⟨#[]⟩, ⟨#[]⟩, [], 0, 0, []⟩, ⟨#[]⟩⟩
def fc2 : S36 := ⟨2, 0, 0, ⟨3, ⟨#[97]⟩, ⟨#[107]⟩, ⟨#[100]⟩, [⟨⟨#[116]⟩, ⟨#[120]⟩⟩], 0, 0, []⟩, ⟨#[]⟩⟩
def fc3 : S36 := ⟨2, 0, 0, ⟨18, ⟨#[]⟩, ⟨#[]⟩, ⟨#[]⟩, [], 0, 3, [0, 2]⟩, ⟨#[]⟩⟩
def ftext : List UInt8 := [109, 97, 107, 101, 32, 34, 97, 34, 10, 112, 117, 116, 32, 34, 97, 34, 32, 34, 107, 34, 32, 34, 100, 34, 32, 34, 116, 34, 32, 34, 120, 34, 10, 35, 10, 99, 114, 97, 115, 104, 32, 51, 32, 48, 32, 50]
theorem fl1 : lineT fc1 = [109, 97, 107, 101, 32, 34, 97, 34] := by decide +kernel
theorem fl2 : lineT fc2 = [112, 117, 116, 32, 34, 97, 34, 32, 34, 107, 34, 32, 34, 100, 34, 32, 34, 116, 34, 32, 34, 120, 34] := by decide +kernel
theorem fl3 : lineT fc3 = [99, 114, 97, 115, 104, 32, 51, 32, 48, 32, 50] := by
  have e3 : Lib.itoa 3 = [51] := itoa_digit 3 (by omega)
  have e0 : Lib.itoa 0 = [48] := itoa_digit 0 (by omega)
  have e2 : Lib.itoa 2 = [50] := itoa_digit 2 (by omega)
  have hp : partsV [110, 108] fc3.f3 = [bs (Lib.itoa 3), bs (Lib.itoa 0), bs (Lib.itoa 2)] := rfl
  have hs : stepL fc3.f3 = joinSp (⟨#[99, 114, 97, 115, 104]⟩ :: partsV [110, 108] fc3.f3) := rfl
  show (stepL fc3.f3).data.toList = _
  rw [hs, hp, e3, e0, e2]
  decide +kernel
theorem fcI (c : S36) (h : c = fc1 ∨ c = fc2 ∨ c = fc3) : KindOK c ∧ CmdI c ∧ clearC c = c := by
  rcases h with rfl | rfl | rfl
  · exact ⟨.inr (.inl ⟨rfl, by decide, by decide⟩), ⟨I64_0, I64_0, I64_0, I64_0, fun x hx => by simp [fc1] at hx⟩, rfl⟩
  · exact ⟨.inr (.inl ⟨rfl, by decide, by decide⟩), ⟨I64_0, I64_0, I64_0, I64_0, fun x hx => by simp [fc2] at hx⟩, rfl⟩
  · exact ⟨.inr (.inl ⟨rfl, by decide, by decide⟩), ⟨I64_0, I64_0, I64_0, by unfold I64; decide, fun x hx => by
      simp only [fc3, List.mem_cons, List.not_mem_nil, or_false] at hx
      rcases hx with rfl | rfl <;> (unfold I64; decide)⟩, rfl⟩
theorem fparse : parseV ftext = ([fc1, fc2, fc3], 0) := by
  have hs : zas ftext = [lineT fc1, lineT fc2, [35], lineT fc3] := by rw [fl1, fl2, fl3]; decide +kernel
  have hl : longV ftext = false := by decide +kernel
  obtain ⟨k1, i1, e1⟩ := fcI fc1 (.inl rfl)
  obtain ⟨k2, i2, e2⟩ := fcI fc2 (.inr (.inl rfl))
  obtain ⟨k3, i3, e3⟩ := fcI fc3 (.inr (.inr rfl))
  have g1 := parseG_lines [fc1, fc2] (fun c hc => by
    simp only [List.mem_cons, List.not_mem_nil, or_false] at hc
    rcases hc with rfl | rfl
    · exact ⟨k1, i1⟩
    · exact ⟨k2, i2⟩)
  have g3 := parseG_lines [fc3] (fun c hc => by rw [List.mem_singleton] at hc; subst hc; exact ⟨k3, i3⟩)
  unfold parseV
  rw [hl, if_neg (by simp), hs, show [lineT fc1, lineT fc2, [35], lineT fc3] = [fc1, fc2].map lineT ++ ([[35]] ++ [fc3].map lineT) from rfl, parseG_app, parseG_app, g1, g3]
  simp only [Option.bind_some, List.map_cons, List.map_nil, e1, e2, e3]
  rfl
theorem f03 : parseV [102, 97, 108, 108, 32, 48, 51] = ([], 110) := by
  have hb := fall_bad [48, 51] (by decide) (by simp) (by decide) (fun m _ e => by have := itoa_zero_head e.symm; simp at this)
  rw [parse_one (s := [102, 97, 108, 108, 32, 48, 51]) (by decide) (by simp) (by decide) (by decide)]
  rw [if_neg (by rw [show ([102, 97, 108, 108, 32, 48, 51] : List UInt8) = bFall ++ 32 :: [48, 51] from rfl, hb]; simp)]
def fp1 : S36 := ⟨2, 0, 0, ⟨17, ⟨#[]⟩, ⟨#[]⟩, ⟨#[]⟩, [], 0, -1, []⟩, ⟨#[]⟩⟩
def fp2 : S36 := ⟨4, 0, 0, ⟨0, ⟨#[]⟩, ⟨#[]⟩, ⟨#[]⟩, [], 0, 0, []⟩, ⟨#[]⟩⟩
def fp3 : S36 := ⟨6, 0, 0, ⟨0, ⟨#[]⟩, ⟨#[]⟩, ⟨#[]⟩, [], 0, 0, []⟩, ⟨#[]⟩⟩
theorem flp1 : lineT fp1 = [102, 97, 108, 108, 32, 45, 49] := by
  have hs : stepL fp1.f3 = joinSp (⟨#[102, 97, 108, 108]⟩ :: [bs (Lib.itoa (-1))]) := rfl
  show (stepL fp1.f3).data.toList = _
  rw [hs, itoa_m1]
  decide +kernel
theorem flp2 : lineT fp2 = [100, 105, 103, 101, 115, 116] := rfl
theorem ftx : textT [fp1, fp2] = [102, 97, 108, 108, 32, 45, 49, 10, 100, 105, 103, 101, 115, 116, 10] := by
  show lineT fp1 ++ [10] ++ (lineT fp2 ++ [10] ++ []) = _
  rw [flp1, flp2]; rfl
theorem fprint : script_Print.f [fp1, fp2] = some (bs [102, 97, 108, 108, 32, 45, 49, 10, 100, 105, 103, 101, 115, 116, 10], 0) := by
  have hok : PrintOK [fp1, fp2] := by
    refine ⟨fun c hc => ?_, by rw [ftx]; decide⟩
    simp only [List.mem_cons, List.not_mem_nil, or_false] at hc
    rcases hc with rfl | rfl
    · exact ⟨I64_0, I64_0, I64_0, by unfold I64; decide, fun x hx => by simp [fp1] at hx, by rw [flp1]; decide⟩
    · exact ⟨I64_0, I64_0, I64_0, I64_0, fun x hx => by simp [fp2] at hx, by rw [flp2]; decide⟩
  have hv : printV [fp1, fp2] = ([102, 97, 108, 108, 32, 45, 49, 10, 100, 105, 103, 101, 115, 116, 10], 0) := by
    rw [printV_ok _ (fun c hc => by
      simp only [List.mem_cons, List.not_mem_nil, or_false] at hc
      rcases hc with rfl | rfl
      · exact .inr (.inl ⟨rfl, by decide, by decide⟩)
      · exact .inr (.inr (.inr (.inl rfl)))), ftx, if_neg (by decide +kernel)]
  unfold script_Print.f
  rw [if_pos hok, hv]
theorem fprint3 : script_Print.f [fp3] = some (bs [], 110) := by
  have hok : PrintOK [fp3] := by
    refine ⟨fun c hc => ?_, by decide +kernel⟩
    rw [List.mem_singleton] at hc; subst hc
    exact ⟨I64_0, I64_0, I64_0, I64_0, fun x hx => by simp [fp3] at hx, by decide +kernel⟩
  have hv : printV [fp3] = ([], 110) := printV_bad _ (fun h => absurd (h fp3 List.mem_cons_self) (by decide))
  unfold script_Print.f
  rw [if_pos hok, hv]
end Go.Proofs.YtdmlgligljagoaaDoor

set_option linter.unusedVariables false
set_option linter.unusedSimpArgs false
namespace Go.Proofs.YtdmlgligljagoaaDoor
open Go.RowKit Go.Proofs.YtdmlgligljagoaaDoorW.PrintWords PS
/-- a literal row that reads -/
theorem C_lit {α : Type} (d : Kd α) (W : World) (e : Nat) {xs : List α} {inner : List Value} (hrep : Reps (d.K W) d.sz xs inner) (hm : xs.length ≤ 9223372036854775807) :
    d.C (W.alloc (.cells inner.toArray e)) (some ⟨W.heap.size, 0, none⟩) xs.length xs := by
  have h2 := World.ownsRow_lit (base := W.heap.size) (e := e) (size := d.sz) W inner.toArray xs.length (Nat.le_refl _) (by simpa [maxLen] using hm) (by simpa using hrep.1)
  have h3 : OwnRow (d.K (W.alloc (.cells inner.toArray e))) e d.sz (W.alloc (.cells inner.toArray e)) W.heap.size (.slice (some ⟨W.heap.size, 0, none⟩) xs.length xs.length) xs :=
    ⟨inner, by simpa using h2, hrep.imp_ (fun p c hp => d.K_below (zae (Below.refl _ _) _) hp)⟩
  obtain ⟨A, c, he, _, hr⟩ := OwnRow.reads h3
  cases he
  exact hr
theorem M_K {α : Type} {d : Kd α} {W : World} {base : Nat} {ok : Nat → Prop} {xs : List α} {inner : List Value} (h : Reps (d.M W base ok) d.sz xs inner) : Reps (d.K W) d.sz xs inner := h.imp_ (fun _ _ hp => d.K_of_M hp)
theorem fl_row (W : World) : Reps (Kd.M k36 W W.heap.size (fun _ => True)) 12 [fp1, fp2] [.int .i64 2, .int .i64 0, .int .i64 0, .int .i64 17, .string ⟨#[]⟩, .string ⟨#[]⟩, .string ⟨#[]⟩, .slice none 0 0, .int .i64 0, .int .i64 (-1), .slice none 0 0, .string ⟨#[]⟩,
    .int .i64 4, .int .i64 0, .int .i64 0, .int .i64 0, .string ⟨#[]⟩, .string ⟨#[]⟩, .string ⟨#[]⟩, .slice none 0 0, .int .i64 0, .int .i64 0, .slice none 0 0, .string ⟨#[]⟩] := by
  refine Reps.front (k36_mkM W W.heap.size _ fp1 (v7 := .slice none 0 0) (v10 := .slice none 0 0) (Kd.R_nil _ _ _ _ _) (Kd.R_nil _ _ _ _ _)) rfl ?_ rfl
  exact Reps.front (k36_mkM W W.heap.size _ fp2 (v7 := .slice none 0 0) (v10 := .slice none 0 0) (Kd.R_nil _ _ _ _ _) (Kd.R_nil _ _ _ _ _)) rfl (Reps.none _ _) rfl
theorem fl_row3 (W : World) : Reps (Kd.M k36 W W.heap.size (fun _ => True)) 12 [fp3] [.int .i64 6, .int .i64 0, .int .i64 0, .int .i64 0, .string ⟨#[]⟩, .string ⟨#[]⟩, .string ⟨#[]⟩, .slice none 0 0, .int .i64 0, .int .i64 0, .slice none 0 0, .string ⟨#[]⟩] :=
  Reps.front (k36_mkM W W.heap.size _ fp3 (v7 := .slice none 0 0) (v10 := .slice none 0 0) (Kd.R_nil _ _ _ _ _) (Kd.R_nil _ _ _ _ _)) rfl (Reps.none _ _) rfl
def fq1 : S57 := toldC fc1
def fq2 : S57 := toldC fc2
def fq3 : S57 := toldC fc3
theorem fq_row (W : World) (gm gk : Nat) (h4 : Kd.C k38 W (some ⟨gm, 0, none⟩) 1 [⟨⟨#[116]⟩, ⟨#[120]⟩⟩]) (h7 : Kd.C (Kd.int .i64) W (some ⟨gk, 0, none⟩) 2 [0, 2]) :
    Reps (Kd.K k57 W) 12 [fq1, fq2, fq3] [.int .i64 2, .int .i64 0, .int .i64 0, .int .i64 1, .string ⟨#[97]⟩, .string ⟨#[]⟩, .string ⟨#[]⟩, .slice none 0 0, .int .i64 0, .int .i64 0, .slice none 0 0, .string ⟨#[]⟩,
    .int .i64 2, .int .i64 0, .int .i64 0, .int .i64 3, .string ⟨#[97]⟩, .string ⟨#[107]⟩, .string ⟨#[100]⟩, .slice (some ⟨gm, 0, none⟩) 1 1, .int .i64 0, .int .i64 0, .slice none 0 0, .string ⟨#[]⟩,
    .int .i64 2, .int .i64 0, .int .i64 0, .int .i64 18, .string ⟨#[]⟩, .string ⟨#[]⟩, .string ⟨#[]⟩, .slice none 0 0, .int .i64 0, .int .i64 3, .slice (some ⟨gk, 0, none⟩) 2 2, .string ⟨#[]⟩] := by
  have n4 : Kd.C k38 W none 0 [] := Kd.C_nil _ _
  have n7 : Kd.C (Kd.int .i64) W none 0 [] := Kd.C_nil _ _
  refine Reps.front (k57_mk W fq1 (A7 := none) (c7 := 0) (Nat.le_refl _) n4 (A10 := none) (c10 := 0) (Nat.le_refl _) n7) rfl ?_ rfl
  refine Reps.front (k57_mk W fq2 (A7 := some ⟨gm, 0, none⟩) (c7 := 1) (Nat.le_refl _) h4 (A10 := none) (c10 := 0) (Nat.le_refl _) n7) rfl ?_ rfl
  exact Reps.front (k57_mk W fq3 (A7 := none) (c7 := 0) (Nat.le_refl _) n4 (A10 := some ⟨gk, 0, none⟩) (c10 := 2) (Nat.le_refl _) h7) rfl (Reps.none _ _) rfl
attribute [local go_sem] zao zbb zbo
set_option maxRecDepth 100000 in
set_option maxHeartbeats 4000000 in
theorem first_w (w : World) (hT : Tab w) : Calls Tryd.prog 16 #[] w fun e w' => e = .returned (.bool true) ∧ Below w.heap.size w w' := by
  obtain ⟨k1, hk1⟩ := parse_is ftext
  rw [fparse] at hk1
  obtain ⟨k2, hk2⟩ := parse_is [102, 97, 108, 108, 32, 48, 51]
  rw [f03] at hk2
  obtain ⟨k3, hk3⟩ := quote_is [0, 34, 97] (by decide)
  rw [show zau [0, 34, 97] = [34, 92, 120, 48, 48, 92, 34, 97, 34] from by decide +kernel] at hk3
  obtain ⟨k4, hk4⟩ := Ev.rounds (told_ev [fc1, fc2, fc3] (parse_short fparse))
  have HK1 := Lib.hid hk1
  have HK2 := Lib.hid hk2
  have HK3 := Lib.hid hk3
  have HK4 := Lib.hid hk4
  have HT := Lib.hid hT
  clear hk1 hk2 hk3 hk4 hT
  go_enter Tryd.func16, Tryd.ntmps16
  go_wp2_with fail
  refine (script_Parse.calls k1 (bs ftext) [fc1, fc2, fc3] 0 _ HT.out HK1.out).mono ?_
  rintro e w1 ⟨v1, rfl, hS1, hb1⟩
  obtain ⟨g1, c1, rfl, _⟩ := Kd.S_form hS1 (show 0 < 3 by decide)
  obtain ⟨_, hl1, hC1⟩ := Kd.S_reads' hS1
  have HB1 := Lib.hid hb1
  have HC1 := Lib.hid hC1
  have HL1 := Lib.hid hl1
  clear hS1 hb1 hC1 hl1
  go_wp2_with fail
  refine (script_Parse.calls k2 (bs [102, 97, 108, 108, 32, 48, 51]) [] 110 _ (zba HT.out HB1.out) HK2.out).mono ?_
  rintro e w2 ⟨v2, rfl, _, hb2⟩
  have HC2 := Lib.hid (Kd.C_below HC1.out hb2)
  have HB2 := Lib.hid (HB1.out.trans (hb2.mono HB1.out.size))
  clear hb2 HC1
  go_wp2_with fail
  have hba := HB2.out.alloc HB2.out.size (.cells #[.int .i64 2, .int .i64 0, .int .i64 0, .int .i64 17, .string ⟨#[]⟩, .string ⟨#[]⟩, .string ⟨#[]⟩, .slice none 0 0, .int .i64 0, .int .i64 (-1), .slice none 0 0, .string ⟨#[]⟩,
    .int .i64 4, .int .i64 0, .int .i64 0, .int .i64 0, .string ⟨#[]⟩, .string ⟨#[]⟩, .string ⟨#[]⟩, .slice none 0 0, .int .i64 0, .int .i64 0, .slice none 0 0, .string ⟨#[]⟩] 36)
  have HBa := Lib.hid hba
  refine (script_Print.calls (some ⟨w2.heap.size, 0, none⟩) 2 [fp1, fp2] _ 0 _ (C_lit k36 w2 36 (M_K (fl_row w2)) (show 2 ≤ 9223372036854775807 by decide)) (Nat.le_refl 2) (zba HT.out hba) fprint).mono ?_
  clear hba
  rintro e w3 ⟨rfl, hb3⟩
  have HB3 := Lib.hid (HBa.out.trans (hb3.mono HBa.out.size))
  have HC3 := Lib.hid (Kd.C_below (Kd.C_alloc HC2.out _) hb3)
  clear hb3 HBa HC2
  go_wp2_with fail
  have hba := HB3.out.alloc HB3.out.size (.cells #[.int .i64 6, .int .i64 0, .int .i64 0, .int .i64 0, .string ⟨#[]⟩, .string ⟨#[]⟩, .string ⟨#[]⟩, .slice none 0 0, .int .i64 0, .int .i64 0, .slice none 0 0, .string ⟨#[]⟩] 36)
  have HBa := Lib.hid hba
  refine (script_Print.calls (some ⟨w3.heap.size, 0, none⟩) 1 [fp3] _ 110 _ (C_lit k36 w3 36 (M_K (fl_row3 w3)) (show 1 ≤ 9223372036854775807 by decide)) (Nat.le_refl 1) (zba HT.out hba) fprint3).mono ?_
  clear hba
  rintro e w4 ⟨rfl, hb4⟩
  have HB4 := Lib.hid (HBa.out.trans (hb4.mono HBa.out.size))
  have HC4 := Lib.hid (Kd.C_below (Kd.C_alloc HC3.out _) hb4)
  clear hb4 HBa HC3
  go_wp2_with fail
  refine (script_Quote.calls k3 (bs [0, 34, 97]) (bs [34, 92, 120, 48, 48, 92, 34, 97, 34]) _ HK3.out).mono ?_
  rintro e w5 ⟨rfl, hb5⟩
  have HB5 := Lib.hid (HB4.out.trans (hb5.mono HB4.out.size))
  have HC5 := Lib.hid (Kd.C_below HC4.out hb5)
  clear hb5 HC4
  have h4 : Kd.C k38 (w5.alloc (.cells #[.string ⟨#[116]⟩, .string ⟨#[120]⟩] 38)) (some ⟨w5.heap.size, 0, none⟩) 1 [⟨⟨#[116]⟩, ⟨#[120]⟩⟩] := C_lit k38 w5 38 (Reps.front (k38_mk w5 ⟨⟨#[116]⟩, ⟨#[120]⟩⟩) rfl (Reps.none _ _) rfl) (by decide)
  have h7 := C_lit (Kd.int .i64) (w5.alloc (.cells #[.string ⟨#[116]⟩, .string ⟨#[120]⟩] 38)) 3 (xs := [0, 2]) (inner := [.int .i64 0, .int .i64 2]) (Reps.front (p := (0 : Int)) (c := [.int .i64 0]) rfl rfl (Reps.front (p := (2 : Int)) (c := [.int .i64 2]) rfl rfl (Reps.none _ _) rfl) rfl) (by decide)
  rw [World.size_alloc] at h7
  have hQ := C_lit k57 ((w5.alloc (.cells #[.string ⟨#[116]⟩, .string ⟨#[120]⟩] 38)).alloc (.cells #[.int .i64 0, .int .i64 2] 3)) 57 (fq_row _ w5.heap.size (w5.heap.size + 1) (Kd.C_alloc h4 _) h7) (by decide)
  rw [World.size_alloc, World.size_alloc] at hQ
  have HQ := Lib.hid hQ
  have HBq := Lib.hid (((HB5.out.alloc HB5.out.size (.cells #[.string ⟨#[116]⟩, .string ⟨#[120]⟩] 38)).alloc (by rw [World.size_alloc]; have := HB5.out.size; omega) (.cells #[.int .i64 0, .int .i64 2] 3)).alloc (by rw [World.size_alloc, World.size_alloc]; have := HB5.out.size; omega) (.cells #[.int .i64 2, .int .i64 0, .int .i64 0, .int .i64 1, .string ⟨#[97]⟩, .string ⟨#[]⟩, .string ⟨#[]⟩, .slice none 0 0, .int .i64 0, .int .i64 0, .slice none 0 0, .string ⟨#[]⟩,
    .int .i64 2, .int .i64 0, .int .i64 0, .int .i64 3, .string ⟨#[97]⟩, .string ⟨#[107]⟩, .string ⟨#[100]⟩, .slice (some ⟨w5.heap.size, 0, none⟩) 1 1, .int .i64 0, .int .i64 0, .slice none 0 0, .string ⟨#[]⟩,
    .int .i64 2, .int .i64 0, .int .i64 0, .int .i64 18, .string ⟨#[]⟩, .string ⟨#[]⟩, .string ⟨#[]⟩, .slice none 0 0, .int .i64 0, .int .i64 3, .slice (some ⟨w5.heap.size + 1, 0, none⟩) 2 2, .string ⟨#[]⟩] 57))
  clear h4 h7 hQ
  go_wp2_with fail
  refine (cofferlaw22_told.calls k4 (some ⟨g1, 0, none⟩) c1 [fc1, fc2, fc3] _ _ (Kd.C_alloc (Kd.C_alloc (Kd.C_alloc HC5.out _) _) _) HL1.out HK4.out).mono ?_
  rintro e w6 ⟨v6, rfl, hS6, hb6⟩
  have HB6 := Lib.hid (HBq.out.trans (hb6.mono HBq.out.size))
  obtain ⟨A6, c6, rfl, hl6, hC6⟩ := Kd.R_reads (Kd.S_R hS6)
  have HS := Lib.hid (sameC_any [fq1, fq2, fq3] [fq1, fq2, fq3] A6 _ c6 3 w6 hC6 (Kd.C_below HQ.out hb6) hl6 (Nat.le_refl 3) (fun x hx => by
    simp only [List.mem_cons, List.not_mem_nil, or_false] at hx
    rcases hx with rfl | rfl | rfl <;> exact ⟨by decide, by decide⟩))
  clear hS6 hb6 hC6 hl6
  go_wp2_with fail
  refine HS.out.mono ?_
  rintro e w7 ⟨rfl, hb7⟩
  have HB7 := Lib.hid (HB6.out.trans (hb7.mono HB6.out.size))
  clear hb7
  go_wp2
  go_ret
  exact ⟨rfl, HB7.out⟩
end Go.Proofs.YtdmlgligljagoaaDoor

set_option linter.unusedVariables false
set_option linter.unusedSimpArgs false
namespace Go.Proofs.YtdmlgligljagoaaDoor
open Go.RowKit Go.Proofs.YtdmlgligljagoaaDoorW.PrintWords PS
/-- commands of the call's own, told as the document's -/
theorem told_w (m : List S36) (Q : List S57) (hq : m.map toldC = Q) (A : Option Addr) (c : Nat) (W : World) (hC : Kd.C k36 W A m.length m) (hc : m.length ≤ c) (hs : Short m) :
    Calls Tryd.prog 15 #[.slice A m.length c] W fun e w' => ∃ A' c', e = .returned (.slice A' Q.length c') ∧ Q.length ≤ c' ∧ Kd.C k57 w' A' Q.length Q ∧ Below W.heap.size W w' := by
  subst hq
  obtain ⟨k, hk⟩ := Ev.rounds (told_ev m hs)
  refine (cofferlaw22_told.calls k A c m (m.map toldC) W hC hc hk).mono ?_
  rintro e w' ⟨v, rfl, hS, hb⟩
  obtain ⟨A', c', rfl, h1, h2⟩ := Kd.R_reads (Kd.S_R hS)
  exact ⟨A', c', rfl, h1, h2, hb⟩
theorem same_w (l m : List S57) (A B : Option Addr) (c d : Nat) (b : Bool) (hb : decide (l = m) = b) (W : World) (hC : Kd.C k57 W A l.length l) (hD : Kd.C k57 W B m.length m) (hc : l.length ≤ c) (hd : m.length ≤ d) (hs : ∀ x ∈ l, x.f3.f4.length ≤ 4294967296 ∧ x.f3.f7.length ≤ 4294967296) :
    Calls Tryd.prog 19 #[.slice A l.length c, .slice B m.length d] W fun e w' => e = .returned (.bool b) ∧ Below W.heap.size W w' := by
  subst hb
  exact sameC_any l m A B c d W hC hD hc hd (fun x hx => by have := hs x hx; omega)
end Go.Proofs.YtdmlgligljagoaaDoor

set_option linter.unusedVariables false
set_option linter.unusedSimpArgs false
namespace Go.Proofs.YtdmlgligljagoaaDoor
open Go.RowKit Go.Proofs.YtdmlgligljagoaaDoorW.PrintWords PS
theorem cut_up {P : Program} (t e : TypeId) (kh : IntKind) {i : TypeInfo} (ht : P.underlying t = some (.slice e)) (hi : P.info? e = some i) (A : Option Addr) (n c : Nat) (j : Int) (h0 : 0 ≤ j) (hm : j ≤ c) :
    ∀ W : World, (Instr.slice t (.slice A n c) none (some (.int kh j)) none).run P W = .ok (.slice A j.toNat c) W := by
  intro W
  have hel : P.elem t = e := by simp [Program.elem, ht]
  have hu : P.underlying t = some (.slice (P.elem t)) := by rw [hel]; exact ht
  have ha : (A.map fun x => x.add 0) = A := by cases A <;> simp [Addr.add]
  rw [run_slice_h W t A n c hu kh j h0 (by omega), hel]
  simp [sizeOf, typeInfo, hi, sliced, Result.andThen, ha]
/-- element i of what was given -/
theorem given_at {w : World} {base g c : Nat} {ok : Nat → Prop} {l : List S57} (h : Given w base ok (some ⟨g, 0, none⟩) c l) (i : Nat) (hi : i < l.length) :
    ∃ A7 c7 A10 c10, w.cell? ⟨g, i * 12 + 7, none⟩ = some (.slice A7 (l[i]'hi).f3.f4.length c7) ∧ w.cell? ⟨g, i * 12 + 10, none⟩ = some (.slice A10 (l[i]'hi).f3.f7.length c10) ∧
      (l[i]'hi).f3.f4.length + 1 ≤ c7 ∧ (l[i]'hi).f3.f7.length + 1 ≤ c10 ∧ (∃ e7, A7 = some e7 ∧ w.cell? (e7.add ((l[i]'hi).f3.f4.length * 2)) = some (.string ⟨#[109, 97, 114, 107]⟩)) ∧ ∃ e10, A10 = some e10 ∧ w.cell? (e10.add (l[i]'hi).f3.f7.length) = some (.int .i64 (-77)) := by
  have hC := (Kd.S_reads' h).2.2
  obtain ⟨ad, cs, had, _, hK, hcc⟩ := Kd.C_get hC z36 (i : Int) (by omega) (by simp; omega)
  injection had with had
  subst had
  have hx : (l.map gvM ++ [mkC]).getD i z36 = gvM (l[i]'hi) := by
    rw [List.getD_eq_getElem?_getD, List.getElem?_append_left (by simpa using hi), List.getElem?_map, List.getElem?_eq_getElem hi]
    rfl
  rw [Int.toNat_natCast] at hK hcc
  rw [hx] at hK
  obtain ⟨A7, c7, A10, c10, rfl, l7, r7, l10, r10⟩ := kmC_open hK
  generalize l[i] = x at *
  have e4 : (gvM x).f3.f4 = x.f3.f4 ++ [pMark] := rfl
  have e7 : (gvM x).f3.f7 = x.f3.f7 ++ [-77] := rfl
  have q7 := hcc 7 _ rfl
  have q10 := hcc 10 _ rfl
  rw [add_at, Nat.zero_add] at q7 q10
  rw [e4] at q7 l7 r7
  rw [e7] at q10 l10 r10
  simp only [List.length_append, List.length_singleton, Nat.add_sub_cancel] at q7 q10 l7 l10
  refine ⟨A7, c7, A10, c10, q7, q10, l7, l10, ?_, ?_⟩
  · obtain ⟨ed, hed, n0, _⟩ := at_T38 r7 (x.f3.f4.length : Int) (by omega) (by simp; omega)
    refine ⟨ed, hed, ?_⟩
    rw [Int.toNat_natCast] at n0
    rw [n0]
    simp [rd_T38, pMark]
  · obtain ⟨ed, hed, n0⟩ := ReadsInt.at_ (readsInt_of.2 (Kd.reads_of_C r10)) (x.f3.f7.length : Int) (by omega) (by simp; omega)
    refine ⟨ed, hed, ?_⟩
    rw [Int.toNat_natCast] at n0
    rw [n0]
    simp [rd]
theorem given_end {w : World} {base g c : Nat} {ok : Nat → Prop} {l : List S57} (h : Given w base ok (some ⟨g, 0, none⟩) c l) : w.cell? ⟨g, l.length * 12, none⟩ = some (.int .i64 (-77)) := by
  have hC := (Kd.S_reads' h).2.2
  obtain ⟨ad, cs, had, _, hK, hcc⟩ := Kd.C_get hC z36 (l.length : Int) (by omega) (by simp; omega)
  injection had with had
  subst had
  have hx : (l.map gvM ++ [mkC]).getD l.length z36 = mkC := by
    rw [List.getD_eq_getElem?_getD, List.getElem?_append_right (by simp)]
    simp
  rw [Int.toNat_natCast] at hK hcc
  rw [hx] at hK
  obtain ⟨A7, c7, A10, c10, rfl, _⟩ := kmC_open hK
  have q := hcc 0 _ rfl
  rw [add_at, Nat.zero_add, Nat.add_zero] at q
  exact q
theorem back_given (l : List S57) : (l.map givnC).map toldC = l := by
  rw [List.map_map]
  have e : toldC ∘ givnC = id := by funext x; rfl
  rw [e, List.map_id]
set_option maxRecDepth 100000 in
set_option maxHeartbeats 4000000 in
theorem kept_m (l : List S57) (A : Option Addr) (c : Nat) (B : Option Addr) (d : Nat) (w : World) {base : Nat} {ok : Nat → Prop} (hG : Given w base ok A c l) (hC : Kd.C k57 w B l.length l) (hd : l.length ≤ d) (hlen : l.length ≤ 1048576) (hx : ∀ x ∈ l, x.f3.f4.length ≤ 1048576 ∧ x.f3.f7.length ≤ 1048576) :
    Calls Tryd.prog 12 #[.slice A l.length c, .slice B l.length d] w fun e w' => e = .returned (.bool true) ∧ Below w.heap.size w w' := by
  obtain ⟨g, rfl, hlc⟩ := hG.form
  have hp := Kd.S_reads' hG.plain
  have hto := told_w (l.map givnC) l (back_given l) (some ⟨g, 0, none⟩) c w hp.2.2 (by rw [List.length_map]; omega) ⟨by rw [List.length_map]; omega, fun y hy => by obtain ⟨x, hx2, rfl⟩ := List.mem_map.1 hy; have := hx x hx2; exact ⟨by show x.f3.f4.length ≤ _; omega, by show x.f3.f7.length ≤ _; omega⟩⟩
  rw [List.length_map] at hto
  have HTo := Lib.hid hto
  have HG := Lib.hid hG
  have HC := Lib.hid hC
  have HX := Lib.hid hx
  obtain ⟨i1, hi1, _⟩ := info_parts info36
  have hcut := cut_up (P := Tryd.prog) 23 36 .i64 Tryd.underlying23 hi1 (some ⟨g, 0, none⟩) l.length c ((l.length : Int) + 1) (by omega) (by omega)
  rw [show ((l.length : Int) + 1).toNat = l.length + 1 by omega] at hcut
  clear hp hto hG hC hi1 hx
  go_enter Tryd.func12, Tryd.ntmps12
  go_wp2_with fail
  refine HTo.out.mono ?_
  rintro e w1 ⟨A1, c1, rfl, hl1, hC1, hb1⟩
  have HB1 := Lib.hid hb1
  have HSm := Lib.hid (same_w l l A1 B c1 d true (decide_eq_true rfl) w1 hC1 (Kd.C_below HC.out hb1) hl1 hd (fun x hx => by have := HX.out x hx; omega))
  clear hl1 hC1 hb1 HTo
  go_wp2_with fail
  refine HSm.out.mono ?_
  rintro e w2 ⟨rfl, hb2⟩
  have HB2 := Lib.hid (HB1.out.trans (hb2.mono HB1.out.size))
  have hend := given_end (HG.out.below HB2.out)
  clear hb2 HSm HB1
  go_wp2
  go_loopw [5] (fun i wr => ∃ k : Nat, k ≤ l.length ∧ i = .int .i64 k ∧ Hid (Below w.heap.size w wr)) (fun i _ => l.length - (intOf i).toNat)
  case atStart => exact ⟨0, Nat.zero_le _, rfl, HB2⟩
  case round =>
    clear hend hcut HB2
    obtain ⟨k, hk, rfl, HB⟩ := hrel
    by_cases hlt : k < l.length
    · obtain ⟨ad, A7, c7, A10, c10, hA, a0, a1, a2, a3, a4, a5, a6, a7, a8, a9, a10, a11, l7, r7, l10, r10⟩ := at_T57 HC.out (k : Int) (by omega) (by omega)
      rw [Int.toNat_natCast, rdQ_at l k hlt] at a7 a10
      obtain ⟨A7', c7', A10', c10', m7, m10, hl7, hl10, ⟨d7, rfl, n7⟩, ⟨d10, rfl, n10⟩⟩ := given_at (HG.out.below HB.out) k hlt
      obtain ⟨hm4, hm7⟩ := HX.out _ (List.getElem_mem hlt)
      clear a0 a1 a2 a3 a4 a5 a6 a8 a9 a11 l7 r7 l10 r10
      subst hA
      replace a7 := zbl HB.out a7
      replace a10 := zbl HB.out a10
      generalize l[k].f3.f4.length = m at *
      generalize l[k].f3.f7.length = m7' at *
      obtain ⟨i1, hi1, _⟩ := info_parts info38
      obtain ⟨i2, hi2, _⟩ := info_parts info3
      have hc1 := cut_up (P := Tryd.prog) 31 38 .i64 Tryd.underlying31 hi1 (some d7) m c7' ((m : Int) + 1) (by omega) (by omega)
      rw [show ((m : Int) + 1).toNat = m + 1 by omega] at hc1
      have hc2 := cut_up (P := Tryd.prog) 32 3 .i64 Tryd.underlying32 hi2 (some d10) m7' c10' ((m7' : Int) + 1) (by omega) (by omega)
      rw [show ((m7' : Int) + 1).toNat = m7' + 1 by omega] at hc2
      clear hi1 hi2
      have t1 : ((⟨#[109, 97, 114, 107]⟩ : ByteArray).toList == (⟨#[109, 97, 114, 107]⟩ : ByteArray).toList) = true := by simp
      have t2 : ((⟨#[109, 97, 114, 107]⟩ : ByteArray).toList != (⟨#[109, 97, 114, 107]⟩ : ByteArray).toList) = false := by simp
      go_wp2
      go_quiet (fail)
      go_wp2
      go_roundw
      case rel => exact ⟨k + 1, by omega, by go_num, Lib.hid (zac HB.out _)⟩
      case measure => simp [intOf]; omega
    · obtain rfl : k = l.length := by omega
      go_wp2
      go_ret
      exact ⟨rfl, HB.out⟩
end Go.Proofs.YtdmlgligljagoaaDoor

set_option linter.unusedVariables false
set_option linter.unusedSimpArgs false
namespace Go.Proofs.YtdmlgligljagoaaDoor
open Go.RowKit Go.Proofs.YtdmlgligljagoaaDoorW.PrintWords PS

def okA (Bb Bm : Nat) : Nat → Prop := fun k => k < Bb ∨ Bm ≤ k
/-- w3: the world ahead of the list; the blocks from Bb on and below Bm are others', and stay as they are in wm. -/
structure Ap (w3 wm wr : World) (Bb Bm : Nat) (v : Value) (xs : List S36) : Prop where
  s : Kd.S k36 36 wr w3.heap.size (okA Bb Bm) v xs
  keep : ∀ k, Bb ≤ k → k < Bm → wr.heap[k]? = wm.heap[k]?
  below : Below w3.heap.size w3 wr
  size : Bm ≤ wr.heap.size
def c12 (x : S36) (v7 v10 : Value) : List Value := [.int .i64 x.f0, .int .i64 x.f1, .int .i64 x.f2, .int .i64 x.f3.f0, .string x.f3.f1, .string x.f3.f2, .string x.f3.f3, v7, .int .i64 x.f3.f5, .int .i64 x.f3.f6, v10, .string x.f4]
def put4 (x : S36) (l : List S38) : S36 := ⟨x.f0, x.f1, x.f2, ⟨x.f3.f0, x.f3.f1, x.f3.f2, x.f3.f3, l, x.f3.f5, x.f3.f6, x.f3.f7⟩, x.f4⟩
def put7 (x : S36) (l : List Int) : S36 := ⟨x.f0, x.f1, x.f2, ⟨x.f3.f0, x.f3.f1, x.f3.f2, x.f3.f3, x.f3.f4, x.f3.f5, x.f3.f6, l⟩, x.f4⟩
section
variable {w3 wm wr : World} {Bb Bm g n cap : Nat} {xs : List S36}
/-- another world: the writes lie in the list's own blocks -/
theorem Ap.keep' {w1 : World} {v : Value} {row : Option Nat} (h : Ap w3 wm wr Bb Bm v xs) (hg : wr.grownBy w1 row) (hrow : ∀ k, row = some k → okA Bb Bm k) : ∀ k, Bb ≤ k → k < Bm → w1.heap[k]? = wm.heap[k]? := fun k h1 h2 =>
  (hg.block k (by have := h.size; omega) (fun he => by rcases hrow k he.symm with h3 | h3 <;> omega)).trans (h.keep k h1 h2)
theorem Ap.lend (h : Ap w3 wm wr Bb Bm (.slice (some ⟨g, 0, none⟩) n cap) xs) (i : Nat) (hi : i < n) :
    ∃ (v7 v10 : Value) (oki : Nat → Prop), wr.cell? ⟨g, i * 12 + 7, none⟩ = some v7 ∧ wr.cell? ⟨g, i * 12 + 10, none⟩ = some v10 ∧
      Kd.R k38 38 wr w3.heap.size oki v7 (xs.getD i z36).f3.f4 ∧ Kd.R (Kd.int .i64) 3 wr w3.heap.size oki v10 (xs.getD i z36).f3.f7 ∧
      (∀ w1 l, wr.grownBy w1 v7.ownBlock → Below w3.heap.size w3 w1 → Kd.R k38 38 w1 w3.heap.size oki v7 l → Ap w3 wm w1 Bb Bm (.slice (some ⟨g, 0, none⟩) n cap) (xs.set i (put4 (xs.getD i z36) l))) ∧
      (∀ w1 l, wr.grownBy w1 v10.ownBlock → Below w3.heap.size w3 w1 → Kd.R (Kd.int .i64) 3 w1 w3.heap.size oki v10 l → Ap w3 wm w1 Bb Bm (.slice (some ⟨g, 0, none⟩) n cap) (xs.set i (put7 (xs.getD i z36) l))) := by
  obtain ⟨oki, c, hcl, hM, hcc, hoki, hback⟩ := Kd.S_borrow h.s z36 (i : Int) (by omega) (by omega)
  rw [Int.toNat_natCast] at hM hcc hback
  generalize xs.getD i z36 = x at *
  obtain ⟨v7, v10, rfl, g7, g10⟩ := k36_openM hM
  have e7 := hcc 7 v7 rfl
  have e10 := hcc 10 v10 rfl
  have had : ∀ m, (⟨g, 0, none⟩ : Addr).add (i * Kd.sz k36 + m) = ⟨g, i * 12 + m, none⟩ := fun m => by rw [add_at, Nat.zero_add]; rfl
  rw [had] at e7 e10
  refine ⟨v7, v10, oki, e7, e10, g7, g10, fun w1 l hg hb hR => ?_, fun w1 l hg hb hR => ?_⟩
  · have hrow : ∀ k, v7.ownBlock = some k → oki k := g7.1
    refine ⟨hback hg hrow (k36_mkM w1 w3.heap.size oki (put4 x l) hR (Kd.R_over' g10 (Kd.R_typed g7) (by decide) hg)), h.keep' hg (fun k hk => (hoki k (hrow k hk)).1), hb, Nat.le_trans h.size hg.size⟩
  · have hrow : ∀ k, v10.ownBlock = some k → oki k := g10.1
    refine ⟨hback hg hrow (k36_mkM w1 w3.heap.size oki (put7 x l) (Kd.R_over' g7 (Kd.R_typed g10) (by decide) hg) hR), h.keep' hg (fun k hk => (hoki k (hrow k hk)).1), hb, Nat.le_trans h.size hg.size⟩
/-- one element's list grows -/
theorem Ap.grow (h : Ap w3 wm wr Bb Bm (.slice (some ⟨g, 0, none⟩) n cap) xs) (i : Nat) (hi : i < n) :
    ∃ (v7 v10 : Value) (oki : Nat → Prop), wr.cell? ⟨g, i * 12 + 7, none⟩ = some v7 ∧ wr.cell? ⟨g, i * 12 + 10, none⟩ = some v10 ∧ (∀ k, wr.heap.size ≤ k → oki k) ∧
      Kd.R k38 38 wr w3.heap.size oki v7 (xs.getD i z36).f3.f4 ∧ Kd.R (Kd.int .i64) 3 wr w3.heap.size oki v10 (xs.getD i z36).f3.f7 ∧
      (∀ w1 v' l, wr.grownBy w1 v7.ownBlock → Kd.R k38 38 w1 w3.heap.size oki v' l →
        Kd.H k36 36 w1 w3.heap.size (okA Bb Bm) (.slice (some ⟨g, 0, none⟩) n cap) xs (i : Int) oki (c12 (xs.getD i z36) v7 v10) ∧
        Kd.M k36 w1 w3.heap.size oki (put4 (xs.getD i z36) l) ((c12 (xs.getD i z36) v7 v10).take 7 ++ [v'] ++ (c12 (xs.getD i z36) v7 v10).drop 8) ∧
        ∀ w2 y, Kd.S k36 36 w2 w3.heap.size (okA Bb Bm) (.slice (some ⟨g, 0, none⟩) n cap) (xs.set i y) → Below w3.heap.size w3 w2 → w1.grownBy w2 (some g) → Ap w3 wm w2 Bb Bm (.slice (some ⟨g, 0, none⟩) n cap) (xs.set i y)) ∧
      (∀ w1 v' l, wr.grownBy w1 v10.ownBlock → Kd.R (Kd.int .i64) 3 w1 w3.heap.size oki v' l →
        Kd.H k36 36 w1 w3.heap.size (okA Bb Bm) (.slice (some ⟨g, 0, none⟩) n cap) xs (i : Int) oki (c12 (xs.getD i z36) v7 v10) ∧
        Kd.M k36 w1 w3.heap.size oki (put7 (xs.getD i z36) l) ((c12 (xs.getD i z36) v7 v10).take 10 ++ [v'] ++ (c12 (xs.getD i z36) v7 v10).drop 11) ∧
        ∀ w2 y, Kd.S k36 36 w2 w3.heap.size (okA Bb Bm) (.slice (some ⟨g, 0, none⟩) n cap) (xs.set i y) → Below w3.heap.size w3 w2 → w1.grownBy w2 (some g) → Ap w3 wm w2 Bb Bm (.slice (some ⟨g, 0, none⟩) n cap) (xs.set i y)) := by
  obtain ⟨oki, c, hcl, hM, hcc, hoki, hH⟩ := Kd.S_lend h.s z36 (i : Int) (by omega) (by omega)
  rw [Int.toNat_natCast] at hM hcc
  generalize xs.getD i z36 = x at *
  obtain ⟨v7, v10, rfl, g7, g10⟩ := k36_openM hM
  have e7 := hcc 7 v7 rfl
  have e10 := hcc 10 v10 rfl
  have hW := Kd.H_widen hH
  have hfr : ∀ k, wr.heap.size ≤ k → oki k ∨ okA Bb Bm k ∧ wr.heap.size ≤ k := fun k hk => .inr ⟨.inr (by have := h.size; omega), hk⟩
  have r7 := Kd.R_mono (ok' := fun k => oki k ∨ okA Bb Bm k ∧ wr.heap.size ≤ k) g7 (fun k hk => .inl hk)
  have r10 := Kd.R_mono (ok' := fun k => oki k ∨ okA Bb Bm k ∧ wr.heap.size ≤ k) g10 (fun k hk => .inl hk)
  have hgo : okA Bb Bm g := h.s.elim fun f hf => hf.1 g (by simp [Value.ownBlock])
  have fin : ∀ {w1 : World} {row : Option Nat}, wr.grownBy w1 row → (∀ k, row = some k → okA Bb Bm k) → ∀ w2 y, Kd.S k36 36 w2 w3.heap.size (okA Bb Bm) (.slice (some ⟨g, 0, none⟩) n cap) (xs.set i y) → Below w3.heap.size w3 w2 → w1.grownBy w2 (some g) → Ap w3 wm w2 Bb Bm (.slice (some ⟨g, 0, none⟩) n cap) (xs.set i y) := fun {w1 row} hg hrow w2 y hS hb hg2 => by
    refine ⟨hS, fun k h1 h2 => ?_, hb, Nat.le_trans (Nat.le_trans h.size hg.size) hg2.size⟩
    refine (hg2.block k (by have := h.size; have := hg.size; omega) (fun he => ?_)).trans (h.keep' hg hrow k h1 h2)
    injection he with he
    subst he
    rcases hgo with h3 | h3 <;> omega
  refine ⟨v7, v10, _, e7, e10, hfr, r7, r10, fun w1 v' l hg hR => ?_, fun w1 v' l hg hR => ?_⟩
  · have hrow : ∀ k, v7.ownBlock = some k → oki k := g7.1
    exact ⟨Kd.H_grown hW hg (fun k hk => .inl (hrow k hk)), k36_mkM w1 w3.heap.size _ (put4 x l) hR (Kd.R_over' r10 (Kd.R_typed g7) (by decide) hg), fin hg (fun k hk => (hoki k (hrow k hk)).1)⟩
  · have hrow : ∀ k, v10.ownBlock = some k → oki k := g10.1
    exact ⟨Kd.H_grown hW hg (fun k hk => .inl (hrow k hk)), k36_mkM w1 w3.heap.size _ (put7 x l) (Kd.R_over' r7 (Kd.R_typed g10) (by decide) hg) hR, fin hg (fun k hk => (hoki k (hrow k hk)).1)⟩
end
theorem Ap.drewN {w3 wm wr : World} {Bb Bm : Nat} {v : Value} {xs : List S36} (h : Ap w3 wm wr Bb Bm v xs) (m : Nat) : Ap w3 wm (wr.drewN m) Bb Bm v xs :=
  ⟨Kd.S_drewN h.s m, h.keep, zac h.below m, h.size⟩
/-- what others hold stays -/
theorem Ap.other {α : Type} {d : Kd α} {e base : Nat} {u : Value} {ys : List α} {w3 wm wr : World} {Bb Bm : Nat} {v : Value} {xs : List S36} (h : Ap w3 wm wr Bb Bm v xs) (hS : Kd.S d e wm base (fun k => Bb ≤ k ∧ k < Bm) u ys) : Kd.S d e wr base (fun k => Bb ≤ k ∧ k < Bm) u ys :=
  Kd.S_step hS (fun k hk _ => h.keep k hk.1 hk.2)
theorem raw_of_R {α : Type} {d : Kd α} {e base : Nat} {w : World} {ok : Nat → Prop} {v : Value} {xs : List α} (h : d.R e w base ok v xs) : ∃ rows : List (List Value), rows.length = xs.length ∧ (Kd.raw d.sz).R e w base ok v rows := by
  obtain ⟨h0, inner, ho, hr⟩ := h
  refine ⟨(List.range xs.length).map fun j => (inner.drop (j * d.sz)).take d.sz, by rw [List.length_map, List.length_range], h0, inner, by rw [List.length_map, List.length_range]; exact ho, by rw [List.length_map, List.length_range]; exact hr.1, fun j p hj => ?_⟩
  rw [List.getElem?_map] at hj
  obtain ⟨j', hj', rfl⟩ := Option.map_eq_some_iff.1 hj
  obtain ⟨hl, he⟩ := List.getElem?_eq_some_iff.1 hj'
  rw [List.getElem_range] at he
  subst he
  rw [List.length_range] at hl
  have hm := d.K_of_M (hr.2 j _ (List.getElem?_eq_getElem hl))
  exact ⟨rfl, d.K_len hm, d.K_one hm⟩
/-- the list's cells alone -/
structure Ar (w3 wm wr : World) (Bb Bm : Nat) (v : Value) (rows : List (List Value)) : Prop where
  r : Kd.R (Kd.raw 12) 36 wr w3.heap.size (okA Bb Bm) v rows
  keep : ∀ k, Bb ≤ k → k < Bm → wr.heap[k]? = wm.heap[k]?
  below : Below w3.heap.size w3 wr
  size : Bm ≤ wr.heap.size
theorem Ap.raw {w3 wm wr : World} {Bb Bm : Nat} {v : Value} {xs : List S36} (h : Ap w3 wm wr Bb Bm v xs) : ∃ rows, rows.length = xs.length ∧ Ar w3 wm wr Bb Bm v rows := by
  obtain ⟨rows, hl, hr⟩ := raw_of_R (Kd.S_R h.s)
  exact ⟨rows, hl, hr, h.keep, h.below, h.size⟩
theorem Ar.step {w3 wm wr w1 : World} {Bb Bm : Nat} {v v1 : Value} {rows rows1 : List (List Value)} (h : Ar w3 wm wr Bb Bm v rows) (hr : Kd.R (Kd.raw 12) 36 w1 w3.heap.size (okA Bb Bm) v1 rows1) (hb : Below w3.heap.size w3 w1) (hg : wr.grownBy w1 v.ownBlock) : Ar w3 wm w1 Bb Bm v1 rows1 :=
  ⟨hr, fun k h1 h2 => (hg.block k (by have := h.size; omega) (fun he => by rcases h.r.1 k he.symm with h3 | h3 <;> omega)).trans (h.keep k h1 h2), hb, Nat.le_trans h.size hg.size⟩
theorem Ar.other {α : Type} {d : Kd α} {e base : Nat} {u : Value} {ys : List α} {w3 wm wr : World} {Bb Bm : Nat} {v : Value} {rows : List (List Value)} (h : Ar w3 wm wr Bb Bm v rows) (hS : Kd.S d e wm base (fun k => Bb ≤ k ∧ k < Bm) u ys) : Kd.S d e wr base (fun k => Bb ≤ k ∧ k < Bm) u ys :=
  Kd.S_step hS (fun k hk _ => h.keep k hk.1 hk.2)
end Go.Proofs.YtdmlgligljagoaaDoor

set_option linter.unusedVariables false
set_option linter.unusedSimpArgs false
namespace Go.Proofs.YtdmlgligljagoaaDoor
open Go.RowKit Go.Proofs.YtdmlgligljagoaaDoorW.PrintWords PS

abbrev gd (xs : List S36) (j : Nat) : S36 := xs.getD j z36
theorem gd_set (xs : List S36) (i j : Nat) (y : S36) (h : i < xs.length) : gd (xs.set i y) j = if j = i then y else gd xs j := by
  unfold gd
  rw [List.getD_eq_getElem?_getD, List.getD_eq_getElem?_getD]
  by_cases e : j = i
  · subst e; rw [if_pos rfl, List.getElem?_set_self h]; rfl
  · rw [if_neg e, List.getElem?_set_ne (fun e2 => e e2.symm)]
/-- the elements ahead of i are told by F and G, element i is a and b, those behind by F' and G' -/
structure Pm (M xs : List S36) (i : Nat) (F : S36 → List S38) (G : S36 → List Int) (F' : S36 → List S38) (G' : S36 → List Int) (a : List S38) (b : List Int) : Prop where
  len : xs.length = M.length
  lo : ∀ j, j < M.length → j < i → (gd xs j).f3.f4 = F (gd M j) ∧ (gd xs j).f3.f7 = G (gd M j)
  mid : i < M.length → (gd xs i).f3.f4 = a ∧ (gd xs i).f3.f7 = b
  hi : ∀ j, j < M.length → i < j → (gd xs j).f3.f4 = F' (gd M j) ∧ (gd xs j).f3.f7 = G' (gd M j)
section
variable {M xs : List S36} {i : Nat} {F F' F2 : S36 → List S38} {G G' G2 : S36 → List Int} {a : List S38} {b : List Int}
theorem Pm.next (h : Pm M xs i F G F' G' (F (gd M i)) (G (gd M i))) : Pm M xs (i + 1) F G F' G' (F' (gd M (i + 1))) (G' (gd M (i + 1))) :=
  ⟨h.len, fun j h1 h2 => by
    by_cases e : j = i
    · subst e; exact h.mid h1
    · exact h.lo j h1 (by omega), fun h1 => h.hi _ h1 (by omega), fun j h1 h2 => h.hi j h1 (by omega)⟩
theorem Pm.turn (h : Pm M xs M.length F G F' G' a b) : Pm M xs 0 F2 G2 F G (F (gd M 0)) (G (gd M 0)) :=
  ⟨h.len, fun j h1 h2 => by omega, fun h1 => h.lo 0 h1 h1, fun j h1 _ => h.lo j h1 h1⟩
theorem Pm.cast {a' : List S38} {b' : List Int} (h : Pm M xs i F G F' G' a b) (ha : a = a') (hb : b = b') : Pm M xs i F G F' G' a' b' := by subst ha hb; exact h
end
end Go.Proofs.YtdmlgligljagoaaDoor

set_option linter.unusedVariables false
set_option linter.unusedSimpArgs false
namespace Go.Proofs.YtdmlgligljagoaaDoor
open Go.RowKit Go.Proofs.YtdmlgligljagoaaDoorW.PrintWords Go.Proofs.YtdmlgligljagoaaDoorW.PrintLast PS
def ovT : ByteArray := ⟨#[111, 118, 101, 114]⟩
def ovP (p : S38) : S38 := ⟨p.f0, ovT⟩
def ovN (n : Int) : Int := bits .xor .i64 n 1
def st4 (b : Nat) (l : List S38) : List S38 := (l.take b).map ovP ++ l.drop b
def st7 (a : Nat) (l : List Int) : List Int := (List.range a).map (fun n : Nat => (n : Int)) ++ l.drop a
def part (a b : Nat) (x : S36) : S36 := ⟨x.f0, x.f1, x.f2, ⟨x.f3.f0, x.f3.f1, x.f3.f2, x.f3.f3, st4 b x.f3.f4, x.f3.f5, ovN x.f3.f6, st7 a x.f3.f7⟩, x.f4⟩
def ovC (x : S36) : S36 := part x.f3.f7.length x.f3.f4.length x
def putN (x : S36) (n : Int) : S36 := ⟨x.f0, x.f1, x.f2, ⟨x.f3.f0, x.f3.f1, x.f3.f2, x.f3.f3, x.f3.f4, x.f3.f5, n, x.f3.f7⟩, x.f4⟩
def Lst (M : List S36) (i : Nat) : List S36 := (M.take i).map ovC ++ M.drop i
theorem st4_len (b : Nat) (l : List S38) (h : b ≤ l.length) : (st4 b l).length = l.length := by simp [st4]; omega
theorem st7_len (a : Nat) (l : List Int) (h : a ≤ l.length) : (st7 a l).length = l.length := by simp [st7]; omega
theorem st4_0 (l : List S38) : st4 0 l = l := by simp [st4]
theorem st7_0 (l : List Int) : st7 0 l = l := by simp [st7]
theorem st4_get (b : Nat) (l : List S38) (h : b < l.length) : (st4 b l).getD b z38 = l[b] := by
  unfold st4
  rw [List.getD_eq_getElem?_getD, List.getElem?_append_right (by simp; omega)]
  simp [Nat.min_eq_left (Nat.le_of_lt h), h]
theorem st4_set (b : Nat) (l : List S38) (h : b < l.length) : (st4 b l).set b (ovP l[b]) = st4 (b + 1) l := by
  unfold st4
  have hl : ((l.take b).map ovP).length = b := by simp; omega
  rw [List.set_append_right _ _ (by omega), hl, Nat.sub_self, List.drop_eq_getElem_cons h, List.set_cons_zero, List.take_succ_eq_append_getElem h, List.map_append, List.append_assoc]
  rfl
theorem st7_set (a : Nat) (l : List Int) (h : a < l.length) : (st7 a l).set a (a : Int) = st7 (a + 1) l := by
  unfold st7
  have hl : ((List.range a).map (fun n : Nat => (n : Int))).length = a := by simp
  rw [List.set_append_right _ _ (by omega), hl, Nat.sub_self, List.drop_eq_getElem_cons h, List.set_cons_zero, List.range_succ, List.map_append, List.append_assoc]
  rfl
theorem lst_len (M : List S36) (i : Nat) (h : i ≤ M.length) : (Lst M i).length = M.length := by simp [Lst]; omega
theorem lst_0 (M : List S36) : Lst M 0 = M := by simp [Lst]
theorem lst_all (M : List S36) : Lst M M.length = M.map ovC := by simp [Lst]
theorem lst_at (M : List S36) (i : Nat) (h : i < M.length) : gd (Lst M i) i = M[i] := by
  unfold gd Lst
  rw [List.getD_eq_getElem?_getD, List.getElem?_append_right (by simp; omega)]
  simp [Nat.min_eq_left (Nat.le_of_lt h), h]
theorem lst_next (M : List S36) (i : Nat) (h : i < M.length) : (Lst M i).set i (ovC M[i]) = Lst M (i + 1) := by
  unfold Lst
  have hl : ((M.take i).map ovC).length = i := by simp; omega
  rw [List.set_append_right _ _ (by omega), hl, Nat.sub_self, List.drop_eq_getElem_cons h, List.set_cons_zero, List.take_succ_eq_append_getElem h, List.map_append, List.append_assoc]
  rfl
theorem set_at (X : List S36) (i : Nat) (y : S36) (h : i < X.length) : gd (X.set i y) i = y := by rw [gd_set _ _ _ _ h, if_pos rfl]
theorem stepN (M : List S36) (i : Nat) (h : i < M.length) : (Lst M i).set i (putN (gd (Lst M i) i) (ovN (gd (Lst M i) i).f3.f6)) = (Lst M i).set i (part 0 0 M[i]) := by
  rw [lst_at M i h]
  unfold putN part
  rw [st4_0, st7_0]
theorem step7 (M : List S36) (i k : Nat) (h : i < M.length) (hk : k < M[i].f3.f7.length) :
    ((Lst M i).set i (part k 0 M[i])).set i (put7 (gd ((Lst M i).set i (part k 0 M[i])) i) ((st7 k M[i].f3.f7).set k (k : Int))) = (Lst M i).set i (part (k + 1) 0 M[i]) := by
  rw [set_at _ _ _ (by rw [lst_len _ _ (Nat.le_of_lt h)]; exact h), List.set_set, st7_set _ _ hk]
  rfl
theorem step4 (M : List S36) (i k a : Nat) (h : i < M.length) (hk : k < M[i].f3.f4.length) :
    ((Lst M i).set i (part a k M[i])).set i (put4 (gd ((Lst M i).set i (part a k M[i])) i) ((st4 k M[i].f3.f4).set k (ovP M[i].f3.f4[k]))) = (Lst M i).set i (part a (k + 1) M[i]) := by
  rw [set_at _ _ _ (by rw [lst_len _ _ (Nat.le_of_lt h)]; exact h), List.set_set, st4_set _ _ hk]
  rfl
/-! what the changed commands may take -/
theorem ovN_64 (n : Int) : I64 (ovN n) := by
  have e : ∃ k, ovN n = wrap64 k := ⟨_, i64_w _⟩
  obtain ⟨k, hk⟩ := e
  rw [hk]
  exact wrap_I64 k
theorem ov_wP (l : List S38) : ((l.map ovP).map wP2).sum ≤ 4 * (l.map wP2).sum := by
  induction l with
  | nil => simp
  | cons p r ih =>
    rw [List.map_cons, List.map_cons, List.sum_cons, List.map_cons, List.sum_cons]
    have e : wP2 (ovP p) = p.f0.size + ovT.size + 3 := rfl
    have e2 : ovT.size = 4 := rfl
    have e3 : wP2 p = p.f0.size + p.f1.size + 3 := rfl
    omega
theorem st4_all (l : List S38) : st4 l.length l = l.map ovP := by simp [st4]
theorem st7_all (l : List Int) : st7 l.length l = (List.range l.length).map (fun n : Nat => (n : Int)) := by simp [st7]
theorem ov_w (x : S57) : wC (toldC (ovC (givnC x))) ≤ 4 * wC x := by
  have h4 : (toldC (ovC (givnC x))).f3.f4 = x.f3.f4.map ovP := st4_all _
  have h7 : (toldC (ovC (givnC x))).f3.f7.length = x.f3.f7.length := by
    show (st7 x.f3.f7.length x.f3.f7).length = _
    rw [st7_len _ _ (Nat.le_refl _)]
  have hp := ov_wP x.f3.f4
  unfold wC wS
  rw [h4, h7]
  show x.f3.f1.size + x.f3.f2.size + x.f3.f3.size + _ + _ + 9 + x.f4.size + 5 ≤ _
  omega
theorem ov_in (x : S57) (h : CmIn x) (hw : wC x ≤ 1048576) : CmIn (toldC (ovC (givnC x))) := by
  obtain ⟨h0, h1, h2, h3, h5, h6, h7⟩ := h
  have hl := meta_len (c := x)
  refine ⟨h0, h1, h2, h3, h5, ovN_64 _, fun y hy => ?_⟩
  have hy2 : y ∈ st7 x.f3.f7.length x.f3.f7 := hy
  rw [st7_all] at hy2
  obtain ⟨n, hn, rfl⟩ := List.mem_map.1 hy2
  have := List.mem_range.1 hn
  exact ⟨by omega, by omega⟩
def ovQ (l : List S57) : List S57 := l.map fun x => toldC (ovC (givnC x))
theorem ovQ_w (l : List S57) : ((ovQ l).map wC).sum ≤ 4 * (l.map wC).sum := by
  unfold ovQ
  induction l with
  | nil => simp
  | cons x r ih =>
    rw [List.map_cons, List.map_cons, List.sum_cons, List.map_cons, List.sum_cons]
    have := ov_w x
    omega
theorem ovQ_told (l : List S57) : ((l.map givnC).map ovC).map toldC = ovQ l := by
  unfold ovQ
  rw [List.map_map, List.map_map]
  rfl
theorem ovQ_givn (l : List S57) : (ovQ l).map givnC = (l.map givnC).map ovC := by
  unfold ovQ
  rw [List.map_map, List.map_map]
  rfl
theorem ovQ_in (l : List S57) (h : ∀ x ∈ l, CmIn x) (hw : (l.map wC).sum ≤ 1048576) : ∀ x ∈ ovQ l, CmIn x := by
  intro y hy
  obtain ⟨x, hx, rfl⟩ := List.mem_map.1 hy
  exact ov_in x (h x hx) (Nat.le_trans (wC_mem hx) hw)
theorem ovQ_print (l : List S57) (h : ∀ x ∈ l, CmIn x) (hw : (l.map wC).sum ≤ 1048576) : PrintOK ((l.map givnC).map ovC) := by
  have hq := ovQ_w l
  have hi := ovQ_in l h hw
  rw [← ovQ_givn]
  refine ⟨fun c hc => ?_, by have := textT_weight (ovQ l) hi; omega⟩
  obtain ⟨x, hx, rfl⟩ := List.mem_map.1 hc
  obtain ⟨_, i1, i2, _, i5, i6, i7⟩ := hi x hx
  have h1 := lineT_weight x (hi x hx)
  have h2 := wC_mem hx
  exact ⟨i1, i2, i5, i6, i7, by omega⟩
theorem over_store {W : World} {base g n cap : Nat} {ok : Nat → Prop} {xs : List S38} (h : k38.R 38 W base ok (.slice (some ⟨g, 0, none⟩) n cap) xs) (k : Nat) (hk : k < n) :
    W.cell? ⟨g, k * 2 + 1, none⟩ = some (.string (xs.getD k z38).f1) ∧ W.frozen? ⟨g, k * 2 + 1, none⟩ = false ∧ k38.R 38 (W.setCell ⟨g, k * 2 + 1, none⟩ (.string ovT)) base ok (.slice (some ⟨g, 0, none⟩) n cap) (xs.set k (ovP (xs.getD k z38))) ∧ W.grownBy (W.setCell ⟨g, k * 2 + 1, none⟩ (.string ovT)) (some g) := by
  obtain ⟨cc, hcl, hM, hcc, hfz⟩ := Kd.R_elem h z38 (k : Int) (by omega) (by omega)
  have h2 := k38_openM hM
  subst h2
  have h3 := Kd.R_seg (okp := fun _ => False) h (k : Int) (by omega) (by omega) (seg := [.string ovT]) (j := 1) (x' := ovP (xs.getD k z38)) hcl hcc (by decide) (k38_mkM _ _ _ (ovP (xs.getD k z38))) (fun _ hk => hk.elim)
  have c1 := hcc 1 _ rfl
  have f1 := hfz 1
  simp only [Int.toNat_natCast] at h3 c1 f1
  exact ⟨c1, f1, h3.1, h3.2⟩
/-- one element's number is written over -/
theorem Ap.lendN {w3 wm wr : World} {Bb Bm g n cap : Nat} {xs : List S36} (h : Ap w3 wm wr Bb Bm (.slice (some ⟨g, 0, none⟩) n cap) xs) (i : Nat) (hi : i < n) :
    ∃ (v7 v10 : Value) (oki : Nat → Prop), wr.cell? ⟨g, i * 12 + 9, none⟩ = some (.int .i64 (gd xs i).f3.f6) ∧ wr.cell? ⟨g, i * 12 + 7, none⟩ = some v7 ∧ wr.cell? ⟨g, i * 12 + 10, none⟩ = some v10 ∧
      Kd.H k36 36 wr w3.heap.size (okA Bb Bm) (.slice (some ⟨g, 0, none⟩) n cap) xs (i : Int) oki (c12 (gd xs i) v7 v10) ∧
      (∀ y, Kd.M k36 wr w3.heap.size oki (putN (gd xs i) y) ((c12 (gd xs i) v7 v10).take 9 ++ [.int .i64 y] ++ (c12 (gd xs i) v7 v10).drop 10)) ∧
      (∀ w2 y, Kd.S k36 36 w2 w3.heap.size (okA Bb Bm) (.slice (some ⟨g, 0, none⟩) n cap) (xs.set i y) → Below w3.heap.size w3 w2 → wr.grownBy w2 (some g) → Ap w3 wm w2 Bb Bm (.slice (some ⟨g, 0, none⟩) n cap) (xs.set i y)) := by
  obtain ⟨oki, c, hcl, hM, hcc, hoki, hH⟩ := Kd.S_lend h.s z36 (i : Int) (by omega) (by omega)
  rw [Int.toNat_natCast] at hM hcc
  unfold gd
  generalize xs.getD i z36 = x at *
  obtain ⟨v7, v10, rfl, g7, g10⟩ := k36_openM hM
  have hgo : okA Bb Bm g := h.s.elim fun f hf => hf.1 g (by simp [Value.ownBlock])
  refine ⟨v7, v10, oki, hcc 9 _ rfl, hcc 7 _ rfl, hcc 10 _ rfl, hH, fun y => k36_mkM wr w3.heap.size oki (putN x y) g7 g10, fun w2 y hS hb hg2 => ⟨hS, fun k h1 h2 => ?_, hb, Nat.le_trans h.size hg2.size⟩⟩
  refine (hg2.block k (by have := h.size; omega) (fun he => ?_)).trans (h.keep k h1 h2)
  injection he with he
  subst he
  rcases hgo with h3 | h3 <;> omega
end Go.Proofs.YtdmlgligljagoaaDoor

namespace Go.Proofs.YtdmlgligljagoaaDoor.PS
open Go.RowKit Go.Proofs.YtdmlgligljagoaaDoorW.PrintWords Go.Proofs.YtdmlgligljagoaaDoorW.PrintLast Go.Proofs.YtdmlgligljagoaaDoorW.PrintMore
attribute [local go_sem] zbg zbh max_two min_two zbe zbf zbi zbj   -- for this text's walks alone
set_option linter.unusedVariables false
set_option linter.unusedSimpArgs false

/-! ### cofferref22_Quote: function 14 -/
mutual
def cofferref22_Quote.l0 : Nat → ByteArray → ByteArray → List Int → Int → Option (ByteArray)
 | 0, _, _, _, _ => none
 | k + 1, x0, x3, x4, x5 => if x5 < (x0.size : Int) then (if 0 ≤ x5 then (if (bt x0 x5) = 34 then (cofferref22_Quote.j1 k x0 x3 x4 x5 (bt x0 x5) true) else (cofferref22_Quote.j1 k x0 x3 x4 x5 (bt x0 x5) ((bt x0 x5) == 92))) else (none)) else (if x4.length < 140737488355328 then (some (strOfNums (x4 ++ [34]))) else (none))
def cofferref22_Quote.j1 : Nat → ByteArray → ByteArray → List Int → Int → Int → Bool → Option (ByteArray)
 | 0, _, _, _, _, _, _ => none
 | k + 1, x0, x3, x4, x5, x6, x21 => if x21 = true then ((some (([92, x6] : List Int) : List Int)).bind fun y426 => (if x4.length + y426.length < 140737488355328 then (cofferref22_Quote.l0 k x0 x3 (x4 ++ y426) (wrap64 (x5 + 1))) else (none))) else (if x6 < 32 then (if 0 ≤ ((Int.tdiv x6 16) % 256) then (if ((Int.tdiv x6 16) % 256) < (x3.size : Int) then (if 0 ≤ (Int.tmod x6 16) then (if (Int.tmod x6 16) < (x3.size : Int) then ((some (([92, 120, bt x3 ((Int.tdiv x6 16) % 256), bt x3 (Int.tmod x6 16)] : List Int) : List Int)).bind fun y432 => (if x4.length + y432.length < 140737488355328 then (cofferref22_Quote.l0 k x0 x3 (x4 ++ y432) (wrap64 (x5 + 1))) else (none))) else (none)) else (none)) else (none)) else (none)) else (if x6 > 126 then (if 0 ≤ ((Int.tdiv x6 16) % 256) then (if ((Int.tdiv x6 16) % 256) < (x3.size : Int) then (if 0 ≤ (Int.tmod x6 16) then (if (Int.tmod x6 16) < (x3.size : Int) then ((some (([92, 120, bt x3 ((Int.tdiv x6 16) % 256), bt x3 (Int.tmod x6 16)] : List Int) : List Int)).bind fun y438 => (if x4.length + y438.length < 140737488355328 then (cofferref22_Quote.l0 k x0 x3 (x4 ++ y438) (wrap64 (x5 + 1))) else (none))) else (none)) else (none)) else (none)) else (none)) else (if x4.length < 140737488355328 then (cofferref22_Quote.l0 k x0 x3 (x4 ++ [x6]) (wrap64 (x5 + 1))) else (none))))
end
def cofferref22_Quote.f (k : Nat) (a0 : ByteArray) : Option (ByteArray) := cofferref22_Quote.l0 k a0 (⟨#[48, 49, 50, 51, 52, 53, 54, 55, 56, 57, 97, 98, 99, 100, 101, 102]⟩ : ByteArray) (([34] : List Int)) 0
def cofferref22_Quote.T11 : Bool × List (List Nat × List Nat) := (true, [([], []), ([], []), ([], []), ([2], [2]), ([1, 3], [1, 3]), ([], []), ([], []), ([6], [6]), ([5, 7], [5, 7]), ([4, 8], [4, 8]), ([0, 9], [0, 9]), ([10, 10, 0, 1, 2, 3, 4, 5, 6, 7, 8, 9, 10], [0, 10])])
def cofferref22_Quote.B11 : List Nat := [0, 0, 0, 4, 14, 0, 0, 64, 224, 510, 1023, 2047]
theorem cofferref22_Quote.tab11 : rtab .any (opsOf Tryd.f14 11) = cofferref22_Quote.T11 := by kernel_rfl
theorem cofferref22_Quote.bits11 : waitsOk cofferref22_Quote.T11.2 cofferref22_Quote.B11 = true := by kernel_rfl
set_option maxHeartbeats 8000000 in
set_option maxRecDepth 100000 in
theorem cofferref22_Quote.calls (k : Nat) (a0 : ByteArray) (r : ByteArray) (w : World) (h : cofferref22_Quote.f k a0 = some r) :
  Calls Tryd.prog 14 #[.string a0] w fun e w' => e = .returned (.string r) ∧ Below w.heap.size w w' := by
 have HB := Aside0.mk (Below.refl w.heap.size w)
 have H : (cofferref22_Quote.l0 k a0 (⟨#[48, 49, 50, 51, 52, 53, 54, 55, 56, 57, 97, 98, 99, 100, 101, 102]⟩ : ByteArray) (([34] : List Int)) 0) = some r := h
 clear h
 obtain ⟨y420, hy420⟩ : ∃ y_ : List Int, y_ = (([34] : List Int)) := ⟨_, rfl⟩
 replace H : (cofferref22_Quote.l0 k a0 (⟨#[48, 49, 50, 51, 52, 53, 54, 55, 56, 57, 97, 98, 99, 100, 101, 102]⟩ : ByteArray) y420 0) = some r := by first | (rw [hy420]; with_reducible exact H) | (have H2_ := (Option.bind_some _ _).symm.trans H; rw [hy420]; with_reducible exact H2_) | (have H2_ := (Option.bind_some _ _).symm.trans H; with_reducible exact H2_) | with_reducible exact H | (rw [hy420]; exact H) | exact H
 have Ny420 := Aside0.mk hy420
 clear hy420
 have H' := Aside0.mk H
 clear H
 go_enter Tryd.func14, Tryd.ntmps14
 go_wp2_with (first | ((with_reducible refine zbm (N := 7) rfl ?_); refine Kd.R_lit (Kd.int .u8) _ 5 ?hg (N := 7) ?hd (xs := ([34] : List Int)) (inner := [.int .u8 34]) (ok := fun _ => True) (okp := fun _ => True) ?hr ?hp (fun _ hk => hk) trivial (Below.refl _ _) (Nat.le_refl _) (by simp) ?_; (case hd => rfl); (case hg => rfl); (case hr => first | (go_simp; done) | (go_simp; rfl)); (case hp => exact (Reps.one (show Kd.M (Kd.int .u8) _ _ _ 34 [.int .u8 34] from rfl) (Reps.none _ _))); intro v421 w2 ho3 hb hg_ hnew_; clear hg_ hnew_; (first | rw [← Ny420.out] at ho3 | (simp only [Int.reduceToNat] at ho3; rw [← Ny420.out] at ho3)); have n0_ := Aside0.mk (Kd.R_lower ho3 (zal (by repeat with_reducible first | exact HB.out | apply zae | apply zac | apply zad))); have n1_ := Aside0.mk (zap (by repeat with_reducible first | exact HB.out | apply zae | apply zac | apply zad) hb); clear HB; have HO422 := n0_; have HB := n1_; clear n0_ n1_; clear hb ho3))
 go_loopg [4, 5] k (fun kq v4 v5 w' => ∃ (x4_1 : List Int) (x5_1 : Int), v5 = .int .i64 x5_1 ∧ Aside0 (cofferref22_Quote.l0 kq a0 (⟨#[48, 49, 50, 51, 52, 53, 54, 55, 56, 57, 97, 98, 99, 100, 101, 102]⟩ : ByteArray) x4_1 x5_1 = some r) ∧ Aside0 (kq ≤ k) ∧ Aside0 (Kd.R (Kd.int .u8) 5 w' w.heap.size (fun _ => True) v4 x4_1) ∧ Aside0 (Below w.heap.size w w'))
 case atStart => exact ⟨(y420), (0), (by first | rfl | (simp; done) | (simp [*]; done)), H', ⟨Nat.le_refl _⟩, ⟨by (with_reducible repeat (first | apply Kd.R_alloc | apply Kd.R_drewN | apply Kd.R_drew)); exact HO422.out⟩, ⟨by repeat with_reducible first | exact HB.out | apply zae | apply zac | apply zad⟩⟩
 case round =>
  clear H'
  try clear c1
  try clear p2
  obtain ⟨x4_1, x5_1, rfl, HA, HK1, HO_4, HB⟩ := hrel
  cases gk with
  | zero => exact absurd HA.out (by simp [cofferref22_Quote.l0])
  | succ k1 =>
   have H := HA.out
   clear HA
   simp only [cofferref22_Quote.l0] at H
   by_cases c4 : x5_1 < (a0.size : Int)
   rotate_left
   ·
    rw [if_neg c4] at H
    have c4b0 : decide (x5_1 < (a0.size : Int)) = false := decide_eq_false c4
    clear c4
    by_cases c47 : x4_1.length < 140737488355328
    rotate_left
    ·
     rw [if_neg c47] at H
     exact absurd H (by simp)
    rw [if_pos c47] at H
    have LMc47 := Aside0.mk c47
    clear c47
    obtain ⟨y423, hy423⟩ : ∃ y_ : List Int, y_ = (x4_1 ++ [34]) := ⟨_, rfl⟩
    replace H : (some (strOfNums y423)) = some r := by first | (rw [hy423]; with_reducible exact H) | (have H2_ := (Option.bind_some _ _).symm.trans H; rw [hy423]; with_reducible exact H2_) | (have H2_ := (Option.bind_some _ _).symm.trans H; with_reducible exact H2_) | with_reducible exact H | (rw [hy423]; exact H) | exact H
    have Ny423 := Aside0.mk hy423
    clear hy423
    obtain rfl := Option.some.inj H
    go_wp2_with (first | ((with_reducible refine zax (b := .append) (xs := #[.tmp 50, .tmp 51]) rfl ?_); at_builtin; refine Kd.R_append (Kd.int .u8) (w0 := w) w.heap.size rfl (.tmp 50) (.tmp 51) 49 5 (.int .u8 0) 1 rfl Tryd.underlying49 info5 rfl (by decide) (by omega) u4 x4_1 34 [.int .u8 34] (fun _ => True) (fun _ => False) rfl rfl ?aP (fun _ hk => hk.elim) ?aF ?aO ?aB ?aS ?aL ?_; (case aP => exact rfl); (case aB => exact (by repeat with_reducible first | exact HB.out | apply zae | apply zac | apply zad)); (case aF => exact (fun _ _ => trivial)); (case aO => exact (by (with_reducible repeat (first | apply Kd.R_alloc | apply Kd.R_drewN | apply Kd.R_drew)); exact HO_4.out)); (case aS => exact (zal (by repeat with_reducible first | exact HB.out | apply zae | apply zac | apply zad))); (case aL => have := LMc47.out; omega); intro v424 w48 ho hb hg hat; rw [← Ny423.out] at ho; have n0_ := Aside0.mk (hb); have n1_ := Aside0.mk (ho); clear HB; clear HO_4; have HB := n0_; have HO425 := n1_; clear n0_ n1_; clear ho hb hg hat; have hcv49 := own_string (P := Tryd.prog) Tryd.underlying49 Tryd.underlying5 Tryd.underlying9 (Kd.own_of_R HO425.out)))
    go_ret
    exact ⟨by first | rfl | (simp [zam, zan] <;> rfl) | (simp [*, zam, zan] <;> rfl), by repeat with_reducible first | exact HB.out | apply zae | apply zac | apply zad⟩
   rw [if_pos c4] at H
   have c4b0 : decide (x5_1 < (a0.size : Int)) = true := decide_eq_true c4
   clear c4
   by_cases c5 : 0 ≤ x5_1
   rotate_left
   ·
    rw [if_neg c5] at H
    exact absurd H (by simp)
   rw [if_pos c5] at H
   have c5b0 : decide (0 ≤ x5_1) = true := decide_eq_true c5
   clear c5
   have HC7 := Aside0.mk H
   clear H
   have p6 : 0 ≤ (x5_1 : Int) := of_decide_eq_true (by first | (with_reducible assumption) | assumption)
   have q6 : x5_1 < (a0.size : Int) := of_decide_eq_true (by first | (with_reducible assumption) | assumption)
   have hx6 := bt_at a0 x5_1
   replace p6 := eq_true p6
   replace q6 := eq_true q6
   go_upto_region 8 with (fail)
   go_cut [21] (fun v21 wc => ∃ (kq : Nat) (x21_6 : Bool), v21 = .bool x21_6 ∧ Aside0 (cofferref22_Quote.j1 kq a0 (⟨#[48, 49, 50, 51, 52, 53, 54, 55, 56, 57, 97, 98, 99, 100, 101, 102]⟩ : ByteArray) x4_1 x5_1 (bt a0 x5_1) x21_6 = some r) ∧ Aside0 (kq ≤ k1) ∧ Aside0 (Kd.R (Kd.int .u8) 5 wc w.heap.size (fun _ => True) u4 x4_1) ∧ Aside0 (Below w.heap.size w wc))
   case first =>
    have H := HC7.out
    clear HC7
    by_cases c8 : (bt a0 x5_1) = 34
    ·
     rw [if_pos c8] at H
     have c8b0 : ((bt a0 x5_1) == 34) = true := beq_iff_eq.mpr c8
     have c8b1 : ((bt a0 x5_1) != 34) = false := bne_eq_false_iff_eq.mpr c8
     clear c8
     (first | rw [c8b0] | (simp only [i64_w, i32_w]; rw [c8b0]) | rw [c8b2] | skip)
     have H' := Aside0.mk H
     clear H
     go_wp2
     go_meet
     case rel => exact ⟨_, (true), (by first | rfl | (simp; done) | (simp [*]; done)), H', ⟨by have := HK1.out; first | omega | exact Nat.le_refl _⟩, ⟨by (with_reducible repeat (first | apply Kd.R_alloc | apply Kd.R_drewN | apply Kd.R_drew)); exact HO_4.out⟩, ⟨by repeat with_reducible first | exact HB.out | apply zae | apply zac | apply zad⟩⟩
    rw [if_neg c8] at H
    have c8b0 : ((bt a0 x5_1) == 34) = false := beq_eq_false_iff_ne.mpr c8
    have c8b1 : ((bt a0 x5_1) != 34) = true := bne_iff_ne.mpr c8
    (first | rw [c8b0] | (simp only [i64_w, i32_w]; rw [c8b0]) | rw [c8b2] | skip)
    have H' := Aside0.mk H
    clear H
    go_wp2
    go_meet
    case rel => exact ⟨_, (((bt a0 x5_1) == 92)), (by first | rfl | (simp; done) | (simp [*]; done)), H', ⟨by have := HK1.out; first | omega | exact Nat.le_refl _⟩, ⟨by (with_reducible repeat (first | apply Kd.R_alloc | apply Kd.R_drewN | apply Kd.R_drew)); exact HO_4.out⟩, ⟨by repeat with_reducible first | exact HB.out | apply zae | apply zac | apply zad⟩⟩
   case rest =>
    clear HC7
    try clear c1
    try clear p2
    try clear c4
    try clear c4b0
    try clear c5
    try clear c5b0
    try clear p6
    try clear q6
    try clear hx6
    try clear c8
    try clear c8b0
    try clear c8b1
    try clear c8b2
    try clear p2
    try clear p6
    try clear q6
    obtain ⟨kq, x21_6, rfl, HA, HJ6, HO_4, HB⟩ := hcut
    cases kq with
    | zero => exact absurd HA.out (by simp [cofferref22_Quote.j1])
    | succ kj6 =>
     have H := HA.out
     clear HA
     simp only [cofferref22_Quote.j1] at H
     by_cases c9 : x21_6 = true
     ·
      subst c9
      have H1 : ((some (([92, (bt a0 x5_1)] : List Int) : List Int)).bind fun y426 => (if x4_1.length + y426.length < 140737488355328 then (cofferref22_Quote.l0 kj6 a0 (⟨#[48, 49, 50, 51, 52, 53, 54, 55, 56, 57, 97, 98, 99, 100, 101, 102]⟩ : ByteArray) (x4_1 ++ y426) (wrap64 (x5_1 + 1))) else (none))) = some r := by rw [if_pos rfl] at H; exact H
      clear H
      have H := H1
      clear H1
      obtain ⟨y426, hy426⟩ : ∃ y_ : List Int, y_ = (([92, (bt a0 x5_1)] : List Int)) := ⟨_, rfl⟩
      replace H : (if x4_1.length + y426.length < 140737488355328 then (cofferref22_Quote.l0 kj6 a0 (⟨#[48, 49, 50, 51, 52, 53, 54, 55, 56, 57, 97, 98, 99, 100, 101, 102]⟩ : ByteArray) (x4_1 ++ y426) (wrap64 (x5_1 + 1))) else (none)) = some r := by first | (rw [hy426]; with_reducible exact H) | (have H2_ := (Option.bind_some _ _).symm.trans H; rw [hy426]; with_reducible exact H2_) | (have H2_ := (Option.bind_some _ _).symm.trans H; with_reducible exact H2_) | with_reducible exact H | (rw [hy426]; exact H) | exact H
      have Ny426 := Aside0.mk hy426
      clear hy426
      by_cases c10 : x4_1.length + y426.length < 140737488355328
      rotate_left
      ·
       rw [if_neg c10] at H
       exact absurd H (by simp)
      rw [if_pos c10] at H
      have LMc10 := Aside0.mk c10
      clear c10
      obtain ⟨y429, hy429⟩ : ∃ y_ : List Int, y_ = (x4_1 ++ y426) := ⟨_, rfl⟩
      replace H : (cofferref22_Quote.l0 kj6 a0 (⟨#[48, 49, 50, 51, 52, 53, 54, 55, 56, 57, 97, 98, 99, 100, 101, 102]⟩ : ByteArray) y429 (wrap64 (x5_1 + 1))) = some r := by first | (rw [hy429]; with_reducible exact H) | (have H2_ := (Option.bind_some _ _).symm.trans H; rw [hy429]; with_reducible exact H2_) | (have H2_ := (Option.bind_some _ _).symm.trans H; with_reducible exact H2_) | with_reducible exact H | (rw [hy429]; exact H) | exact H
      have Ny429 := Aside0.mk hy429
      clear hy429
      have H' := Aside0.mk H
      clear H
      go_wp2_with (first | ((with_reducible refine zbm (N := 30) rfl ?_); refine Kd.R_lit (Kd.int .u8) _ 5 ?hg (N := 30) ?hd (xs := ([92, (bt a0 x5_1)] : List Int)) (inner := [.int .u8 92, .int .u8 (bt a0 x5_1)]) (ok := fun _ => True) (okp := fun _ => True) ?hr ?hp (fun _ hk => hk) trivial (Below.refl _ _) (Nat.le_refl _) (by simp) ?_; (case hd => rfl); (case hg => rfl); (case hr => first | (go_simp; done) | (go_simp; rfl)); (case hp => exact (Reps.one (show Kd.M (Kd.int .u8) _ _ _ 92 [.int .u8 92] from rfl) (Reps.one (show Kd.M (Kd.int .u8) _ _ _ (bt a0 x5_1) [.int .u8 (bt a0 x5_1)] from rfl) (Reps.none _ _)))); intro v427 w11 ho12 hb hg_ hnew_; clear hg_ hnew_; (first | rw [← Ny426.out] at ho12 | (simp only [Int.reduceToNat] at ho12; rw [← Ny426.out] at ho12)); have n0_ := Aside0.mk (Kd.R_elder' (by (with_reducible repeat (first | apply Kd.R_alloc | apply Kd.R_drewN | apply Kd.R_drew)); exact HO_4.out) (Kd.R_base ho12) hb); have n1_ := Aside0.mk (Kd.R_lower (Kd.R_new' ho12 (Kd.R_lt (by (with_reducible repeat (first | apply Kd.R_alloc | apply Kd.R_drewN | apply Kd.R_drew)); exact HO_4.out))) (zal (by repeat with_reducible first | exact HB.out | apply zae | apply zac | apply zad))); have n2_ := Aside0.mk (zap (by repeat with_reducible first | exact HB.out | apply zae | apply zac | apply zad) hb); clear HO_4; clear HB; have HO_4 := n0_; have HO428 := n1_; have HB := n2_; clear n0_ n1_ n2_; clear hb ho12; obtain ⟨Ao14, co14, eo14⟩ := Kd.R_slice HO428.out; subst eo14) | ((with_reducible refine zax (b := .append) (xs := #[.tmp 28, .tmp 30]) rfl ?_); at_builtin; refine Kd.R_append_rows (Kd.int .u8) (w0 := w) w.heap.size rfl (.tmp 28) (.tmp 30) 49 5 (.int .u8 0) 1 rfl Tryd.underlying49 info5 rfl (by decide) (by omega) u4 x4_1 y426 _ _ _ (fun k_ => some k_ ≠ (.slice Ao14 y426.length co14 : Value).ownBlock) (fun _ => False) rfl rfl ?aO ?aR (fun _ _ h => h) (fun _ h => h.elim) ?aF ?aB ?aS ?aL ?_; (case aR => repeat (first | exact (Kd.R_reads' HO428.out).2.2 | (with_reducible refine Kd.C_alloc ?_ _) | (with_reducible refine Kd.C_drewN ?_ _) | (with_reducible refine Kd.C_drew ?_))); (case aB => exact (by repeat with_reducible first | exact HB.out | apply zae | apply zac | apply zad)); (case aF => exact (fun k_ hk => Kd.fresh' (Kd.R_lt (by (with_reducible repeat (first | apply Kd.R_alloc | apply Kd.R_drewN | apply Kd.R_drew)); exact HO428.out)) k_ hk)); (case aO => exact (by (with_reducible repeat (first | apply Kd.R_alloc | apply Kd.R_drewN | apply Kd.R_drew)); exact Kd.R_mono HO_4.out (fun _ hk => hk.2))); (case aS => exact (zal (by repeat with_reducible first | exact HB.out | apply zae | apply zac | apply zad))); (case aL => have := LMc10.out; omega); intro v430 w13 ho hb hg hat; rw [← Ny429.out] at ho; have n0_ := Aside0.mk (Kd.R_after (ok := (fun _ => True)) (by (with_reducible repeat (first | apply Kd.R_alloc | apply Kd.R_drewN | apply Kd.R_drew)); exact HO428.out) hg hat); have n1_ := Aside0.mk (hb); have n2_ := Aside0.mk (ho); clear HO428; clear HB; clear HO_4; have HO428 := n0_; have HB := n1_; have HO431 := n2_; clear n0_ n1_ n2_; clear ho hb hg hat))
      go_roundg kj6
      case measure => have := HK1.out; have := HJ6.out; omega
      case rel => exact ⟨(y429), (wrap64 (x5_1 + 1)), (by first | rfl | (simp; done) | (simp [*]; done)), H', ⟨by have := HK1.out; have := HJ6.out; omega⟩, ⟨by (with_reducible repeat (first | apply Kd.R_alloc | apply Kd.R_drewN | apply Kd.R_drew)); exact Kd.R_mono HO431.out (fun _ hk => trivial)⟩, ⟨by repeat with_reducible first | exact HB.out | apply zae | apply zac | apply zad⟩⟩
     replace c9 := Bool.eq_false_iff.mpr c9
     subst c9
     have H1 : (if (bt a0 x5_1) < 32 then (if 0 ≤ ((Int.tdiv (bt a0 x5_1) 16) % 256) then (if ((Int.tdiv (bt a0 x5_1) 16) % 256) < ((⟨#[48, 49, 50, 51, 52, 53, 54, 55, 56, 57, 97, 98, 99, 100, 101, 102]⟩ : ByteArray).size : Int) then (if 0 ≤ (Int.tmod (bt a0 x5_1) 16) then (if (Int.tmod (bt a0 x5_1) 16) < ((⟨#[48, 49, 50, 51, 52, 53, 54, 55, 56, 57, 97, 98, 99, 100, 101, 102]⟩ : ByteArray).size : Int) then ((some (([92, 120, bt (⟨#[48, 49, 50, 51, 52, 53, 54, 55, 56, 57, 97, 98, 99, 100, 101, 102]⟩ : ByteArray) ((Int.tdiv (bt a0 x5_1) 16) % 256), bt (⟨#[48, 49, 50, 51, 52, 53, 54, 55, 56, 57, 97, 98, 99, 100, 101, 102]⟩ : ByteArray) (Int.tmod (bt a0 x5_1) 16)] : List Int) : List Int)).bind fun y432 => (if x4_1.length + y432.length < 140737488355328 then (cofferref22_Quote.l0 kj6 a0 (⟨#[48, 49, 50, 51, 52, 53, 54, 55, 56, 57, 97, 98, 99, 100, 101, 102]⟩ : ByteArray) (x4_1 ++ y432) (wrap64 (x5_1 + 1))) else (none))) else (none)) else (none)) else (none)) else (none)) else (if (bt a0 x5_1) > 126 then (if 0 ≤ ((Int.tdiv (bt a0 x5_1) 16) % 256) then (if ((Int.tdiv (bt a0 x5_1) 16) % 256) < ((⟨#[48, 49, 50, 51, 52, 53, 54, 55, 56, 57, 97, 98, 99, 100, 101, 102]⟩ : ByteArray).size : Int) then (if 0 ≤ (Int.tmod (bt a0 x5_1) 16) then (if (Int.tmod (bt a0 x5_1) 16) < ((⟨#[48, 49, 50, 51, 52, 53, 54, 55, 56, 57, 97, 98, 99, 100, 101, 102]⟩ : ByteArray).size : Int) then ((some (([92, 120, bt (⟨#[48, 49, 50, 51, 52, 53, 54, 55, 56, 57, 97, 98, 99, 100, 101, 102]⟩ : ByteArray) ((Int.tdiv (bt a0 x5_1) 16) % 256), bt (⟨#[48, 49, 50, 51, 52, 53, 54, 55, 56, 57, 97, 98, 99, 100, 101, 102]⟩ : ByteArray) (Int.tmod (bt a0 x5_1) 16)] : List Int) : List Int)).bind fun y438 => (if x4_1.length + y438.length < 140737488355328 then (cofferref22_Quote.l0 kj6 a0 (⟨#[48, 49, 50, 51, 52, 53, 54, 55, 56, 57, 97, 98, 99, 100, 101, 102]⟩ : ByteArray) (x4_1 ++ y438) (wrap64 (x5_1 + 1))) else (none))) else (none)) else (none)) else (none)) else (none)) else (if x4_1.length < 140737488355328 then (cofferref22_Quote.l0 kj6 a0 (⟨#[48, 49, 50, 51, 52, 53, 54, 55, 56, 57, 97, 98, 99, 100, 101, 102]⟩ : ByteArray) (x4_1 ++ [(bt a0 x5_1)]) (wrap64 (x5_1 + 1))) else (none)))) = some r := by rw [if_neg (show ¬ (false = true) by decide)] at H; exact H
     clear H
     have H := H1
     clear H1
     by_cases c15 : (bt a0 x5_1) < 32
     ·
      rw [if_pos c15] at H
      have c15b0 : decide ((bt a0 x5_1) < 32) = true := decide_eq_true c15
      clear c15
      obtain ⟨ji16, hji16⟩ : ∃ j_ : Int, ((Int.tdiv (bt a0 x5_1) 16) % 256) = j_ := ⟨_, rfl⟩
      replace H : (if 0 ≤ (ji16) then (if (ji16) < ((⟨#[48, 49, 50, 51, 52, 53, 54, 55, 56, 57, 97, 98, 99, 100, 101, 102]⟩ : ByteArray).size : Int) then (if 0 ≤ (Int.tmod (bt a0 x5_1) 16) then (if (Int.tmod (bt a0 x5_1) 16) < ((⟨#[48, 49, 50, 51, 52, 53, 54, 55, 56, 57, 97, 98, 99, 100, 101, 102]⟩ : ByteArray).size : Int) then ((some (([92, 120, bt (⟨#[48, 49, 50, 51, 52, 53, 54, 55, 56, 57, 97, 98, 99, 100, 101, 102]⟩ : ByteArray) (ji16), bt (⟨#[48, 49, 50, 51, 52, 53, 54, 55, 56, 57, 97, 98, 99, 100, 101, 102]⟩ : ByteArray) (Int.tmod (bt a0 x5_1) 16)] : List Int) : List Int)).bind fun y432 => (if x4_1.length + y432.length < 140737488355328 then (cofferref22_Quote.l0 kj6 a0 (⟨#[48, 49, 50, 51, 52, 53, 54, 55, 56, 57, 97, 98, 99, 100, 101, 102]⟩ : ByteArray) (x4_1 ++ y432) (wrap64 (x5_1 + 1))) else (none))) else (none)) else (none)) else (none)) else (none)) = some r := by first | (rw [hji16] at H; exact H) | (simp only [hji16] at H ⊢; exact H)
      have hji16w : (IntKind.u8.wrap (Int.tdiv (bt a0 x5_1) 16)) = ji16 := (IntKind.wrap_u8 _).trans hji16
      by_cases c17 : 0 ≤ (ji16)
      rotate_left
      ·
       rw [if_neg c17] at H
       exact absurd H (by simp)
      rw [if_pos c17] at H
      have c17b0 : decide (0 ≤ (ji16)) = true := decide_eq_true c17
      clear c17
      by_cases c18 : (ji16) < ((⟨#[48, 49, 50, 51, 52, 53, 54, 55, 56, 57, 97, 98, 99, 100, 101, 102]⟩ : ByteArray).size : Int)
      rotate_left
      ·
       rw [if_neg c18] at H
       exact absurd H (by simp)
      rw [if_pos c18] at H
      have c18b0 : decide ((ji16) < ((⟨#[48, 49, 50, 51, 52, 53, 54, 55, 56, 57, 97, 98, 99, 100, 101, 102]⟩ : ByteArray).size : Int)) = true := decide_eq_true c18
      clear c18
      obtain ⟨ji20, hji20⟩ : ∃ j_ : Int, (Int.tmod (bt a0 x5_1) 16) = j_ := ⟨_, rfl⟩
      replace H : (if 0 ≤ (ji20) then (if (ji20) < ((⟨#[48, 49, 50, 51, 52, 53, 54, 55, 56, 57, 97, 98, 99, 100, 101, 102]⟩ : ByteArray).size : Int) then ((some (([92, 120, bt (⟨#[48, 49, 50, 51, 52, 53, 54, 55, 56, 57, 97, 98, 99, 100, 101, 102]⟩ : ByteArray) (ji16), bt (⟨#[48, 49, 50, 51, 52, 53, 54, 55, 56, 57, 97, 98, 99, 100, 101, 102]⟩ : ByteArray) (ji20)] : List Int) : List Int)).bind fun y432 => (if x4_1.length + y432.length < 140737488355328 then (cofferref22_Quote.l0 kj6 a0 (⟨#[48, 49, 50, 51, 52, 53, 54, 55, 56, 57, 97, 98, 99, 100, 101, 102]⟩ : ByteArray) (x4_1 ++ y432) (wrap64 (x5_1 + 1))) else (none))) else (none)) else (none)) = some r := by first | (rw [hji20] at H; exact H) | (simp only [hji20] at H ⊢; exact H)
      by_cases c21 : 0 ≤ (ji20)
      rotate_left
      ·
       rw [if_neg c21] at H
       exact absurd H (by simp)
      rw [if_pos c21] at H
      have c21b0 : decide (0 ≤ (ji20)) = true := decide_eq_true c21
      clear c21
      by_cases c22 : (ji20) < ((⟨#[48, 49, 50, 51, 52, 53, 54, 55, 56, 57, 97, 98, 99, 100, 101, 102]⟩ : ByteArray).size : Int)
      rotate_left
      ·
       rw [if_neg c22] at H
       exact absurd H (by simp)
      rw [if_pos c22] at H
      have c22b0 : decide ((ji20) < ((⟨#[48, 49, 50, 51, 52, 53, 54, 55, 56, 57, 97, 98, 99, 100, 101, 102]⟩ : ByteArray).size : Int)) = true := decide_eq_true c22
      clear c22
      obtain ⟨y432, hy432⟩ : ∃ y_ : List Int, y_ = (([92, 120, bt (⟨#[48, 49, 50, 51, 52, 53, 54, 55, 56, 57, 97, 98, 99, 100, 101, 102]⟩ : ByteArray) (ji16), bt (⟨#[48, 49, 50, 51, 52, 53, 54, 55, 56, 57, 97, 98, 99, 100, 101, 102]⟩ : ByteArray) (ji20)] : List Int)) := ⟨_, rfl⟩
      replace H : (if x4_1.length + y432.length < 140737488355328 then (cofferref22_Quote.l0 kj6 a0 (⟨#[48, 49, 50, 51, 52, 53, 54, 55, 56, 57, 97, 98, 99, 100, 101, 102]⟩ : ByteArray) (x4_1 ++ y432) (wrap64 (x5_1 + 1))) else (none)) = some r := by first | (rw [hy432]; with_reducible exact H) | (have H2_ := (Option.bind_some _ _).symm.trans H; rw [hy432]; with_reducible exact H2_) | (have H2_ := (Option.bind_some _ _).symm.trans H; with_reducible exact H2_) | with_reducible exact H | (rw [hy432]; exact H) | exact H
      have Ny432 := Aside0.mk hy432
      clear hy432
      by_cases c24 : x4_1.length + y432.length < 140737488355328
      rotate_left
      ·
       rw [if_neg c24] at H
       exact absurd H (by simp)
      rw [if_pos c24] at H
      have LMc24 := Aside0.mk c24
      clear c24
      obtain ⟨y435, hy435⟩ : ∃ y_ : List Int, y_ = (x4_1 ++ y432) := ⟨_, rfl⟩
      replace H : (cofferref22_Quote.l0 kj6 a0 (⟨#[48, 49, 50, 51, 52, 53, 54, 55, 56, 57, 97, 98, 99, 100, 101, 102]⟩ : ByteArray) y435 (wrap64 (x5_1 + 1))) = some r := by first | (rw [hy435]; with_reducible exact H) | (have H2_ := (Option.bind_some _ _).symm.trans H; rw [hy435]; with_reducible exact H2_) | (have H2_ := (Option.bind_some _ _).symm.trans H; with_reducible exact H2_) | with_reducible exact H | (rw [hy435]; exact H) | exact H
      have Ny435 := Aside0.mk hy435
      clear hy435
      have H' := Aside0.mk H
      clear H
      try go_wp2
      have n0_ := Aside0.mk (Kd.R_drew HO_4.out)
      have n1_ := Aside0.mk (zad HB.out)
      clear HO_4
      clear HB
      have HO_4 := n0_
      have HB := n1_
      clear n0_ n1_
      have p19 : 0 ≤ ((ji16) : Int) := of_decide_eq_true (by first | (with_reducible assumption) | assumption)
      have q19 : (ji16) < (16 : Int) := of_decide_eq_true (by first | (with_reducible assumption) | assumption)
      have hx19 := bt_at (⟨#[48, 49, 50, 51, 52, 53, 54, 55, 56, 57, 97, 98, 99, 100, 101, 102]⟩ : ByteArray) (ji16)
      replace p19 := eq_true p19
      replace q19 := eq_true q19
      have p23 : 0 ≤ ((ji20) : Int) := of_decide_eq_true (by first | (with_reducible assumption) | assumption)
      have q23 : (ji20) < (16 : Int) := of_decide_eq_true (by first | (with_reducible assumption) | assumption)
      have hx23 := bt_at (⟨#[48, 49, 50, 51, 52, 53, 54, 55, 56, 57, 97, 98, 99, 100, 101, 102]⟩ : ByteArray) (ji20)
      replace p23 := eq_true p23
      replace q23 := eq_true q23
      refine start_ (n := 12) (S := fun w' => True) (ds := []) #[false, false, false, false, false, false, false, false, false, false, false, false] (by kernel_rfl) rfl rfl trivial (fun hHeld => ?_); refine zbp cofferref22_Quote.tab11 cofferref22_Quote.bits11 (fun HT_ HW_ => ?_)
      generalize wc.drew = w25 at HO_4 HB hHeld ⊢
      refine pure_ (i := 0) (N := some 39) (v := ?_) (a' := ?_) (tm 12 1) rfl rfl (zak HT_.out (by kernel_rfl)) (fun _ _ _ h => h) (Or.inl ⟨by rfl, ?_⟩) ?_ ?_
      rotate_left
      ·
       intro w'
       go_simp
       with_reducible rfl
      rotate_left
      ·
       simp only [aw]
       rfl
      refine pure_ (i := 1) (N := some 40) (v := ?_) (a' := ?_) (tm 12 3) rfl rfl (zak HT_.out (by kernel_rfl)) (fun _ _ _ h => h) (Or.inl ⟨by rfl, ?_⟩) ?_ ?_
      rotate_left
      ·
       intro w'
       go_simp
       with_reducible rfl
      rotate_left
      ·
       simp only [aw]
       rfl
      refine pure_ (i := 2) (N := some 41) (v := ?_) (a' := ?_) (tm 12 7) rfl rfl (zak HT_.out (by kernel_rfl)) (fun _ _ _ h => h) (Or.inl ⟨by rfl, ?_⟩) ?_ ?_
      rotate_left
      ·
       intro w'
       go_simp
       with_reducible rfl
      rotate_left
      ·
       simp only [aw]
       rfl
      refine pure_ (i := 3) (N := some 42) (v := ?_) (a' := ?_) (tm 12 15) rfl rfl (zak HT_.out (by kernel_rfl)) (fun _ _ _ h => h) (Or.inl ⟨by rfl, ?_⟩) ?_ ?_
      rotate_left
      ·
       intro w'
       go_simp
       with_reducible rfl
      rotate_left
      ·
       simp only [aw]
       rfl
      refine pure_ (i := 5) (N := some 44) (v := ?_) (a' := ?_) (tm 12 47) rfl rfl (zak HT_.out (by kernel_rfl)) (fun _ _ _ h => h) (Or.inl ⟨by rfl, ?_⟩) ?_ ?_
      rotate_left
      ·
       intro w'
       go_simp
       with_reducible rfl
      rotate_left
      ·
       simp only [aw]
       rfl
      refine pure_ (i := 6) (N := some 45) (v := ?_) (a' := ?_) (tm 12 111) rfl rfl (zak HT_.out (by kernel_rfl)) (fun _ _ _ h => h) (Or.inl ⟨by rfl, ?_⟩) ?_ ?_
      rotate_left
      ·
       intro w'
       go_simp
       with_reducible rfl
      rotate_left
      ·
       simp only [aw]
       rfl
      refine pure_ (i := 7) (N := some 46) (v := ?_) (a' := ?_) (tm 12 239) rfl rfl (zak HT_.out (by kernel_rfl)) (fun _ _ _ h => h) (Or.inl ⟨by rfl, ?_⟩) ?_ ?_
      rotate_left
      ·
       intro w'
       go_simp
       with_reducible rfl
      rotate_left
      ·
       simp only [aw]
       rfl
      refine take_ (i := 4) (N := some 43) (v := ?_) (a' := ?_) #[true, true, true, true, true, true, true, true, false, false, false, false] rfl rfl (zat HT_.out HW_.out (by kernel_rfl)) (fun _ _ _ h => h) (Or.inl ⟨by rfl, ?_⟩) hHeld ?_ ?_
      rotate_left
      ·
       intro w' _
       go_simp
       with_reducible rfl
      rotate_left
      ·
       simp only [aw]
       rfl
      refine take_ (i := 8) (N := some 47) (v := ?_) (a' := ?_) #[true, true, true, true, true, true, true, true, true, false, false, false] rfl rfl (zat HT_.out HW_.out (by kernel_rfl)) (fun _ _ _ h => h) (Or.inl ⟨by rfl, ?_⟩) hHeld ?_ ?_
      rotate_left
      ·
       intro w' _
       go_simp
       with_reducible rfl
      rotate_left
      ·
       simp only [aw]
       rfl
      refine one_ (i := 9) (N := some 48) (tm 12 1023) rfl rfl (one_of HT_.out (by kernel_rfl)) (by decide) (fun K hK => ?_)
      refine Kd.R_lit_step (Kd.int .u8) _ 5 ?hg (N := 48) ?hd (xs := ([92, 120, bt (⟨#[48, 49, 50, 51, 52, 53, 54, 55, 56, 57, 97, 98, 99, 100, 101, 102]⟩ : ByteArray) (ji16), bt (⟨#[48, 49, 50, 51, 52, 53, 54, 55, 56, 57, 97, 98, 99, 100, 101, 102]⟩ : ByteArray) (ji20)] : List Int)) (inner := [.int .u8 92, .int .u8 120, .int .u8 (bt (⟨#[48, 49, 50, 51, 52, 53, 54, 55, 56, 57, 97, 98, 99, 100, 101, 102]⟩ : ByteArray) (ji16)), .int .u8 (bt (⟨#[48, 49, 50, 51, 52, 53, 54, 55, 56, 57, 97, 98, 99, 100, 101, 102]⟩ : ByteArray) (ji20))]) (ok := fun _ => True) (okp := fun _ => True) ?hr ?hp (fun _ hk => hk) trivial (Below.refl _ _) (Nat.le_refl _) (by simp) ?_; (case hd => rfl); (case hg => rfl); (case hr => first | (go_simp; done) | (go_simp; rfl)); (case hp => exact (Reps.one (show Kd.M (Kd.int .u8) _ _ _ 92 [.int .u8 92] from rfl) (Reps.one (show Kd.M (Kd.int .u8) _ _ _ 120 [.int .u8 120] from rfl) (Reps.one (show Kd.M (Kd.int .u8) _ _ _ (bt (⟨#[48, 49, 50, 51, 52, 53, 54, 55, 56, 57, 97, 98, 99, 100, 101, 102]⟩ : ByteArray) (ji16)) [.int .u8 (bt (⟨#[48, 49, 50, 51, 52, 53, 54, 55, 56, 57, 97, 98, 99, 100, 101, 102]⟩ : ByteArray) (ji16))] from rfl) (Reps.one (show Kd.M (Kd.int .u8) _ _ _ (bt (⟨#[48, 49, 50, 51, 52, 53, 54, 55, 56, 57, 97, 98, 99, 100, 101, 102]⟩ : ByteArray) (ji20)) [.int .u8 (bt (⟨#[48, 49, 50, 51, 52, 53, 54, 55, 56, 57, 97, 98, 99, 100, 101, 102]⟩ : ByteArray) (ji20))] from rfl) (Reps.none _ _))))))
      intro v433 w26 ho27 hb hg_ hnew_
      clear hg_ hnew_
      (first | rw [← Ny432.out] at ho27 | (simp only [Int.reduceToNat] at ho27; rw [← Ny432.out] at ho27))
      have n0_ := Aside0.mk (Kd.R_elder' (by (with_reducible repeat (first | apply Kd.R_alloc | apply Kd.R_drewN | apply Kd.R_drew)); exact HO_4.out) (Kd.R_base ho27) hb)
      have n1_ := Aside0.mk (Kd.R_lower (Kd.R_new' ho27 (Kd.R_lt (by (with_reducible repeat (first | apply Kd.R_alloc | apply Kd.R_drewN | apply Kd.R_drew)); exact HO_4.out))) (zal (by repeat with_reducible first | exact HB.out | apply zae | apply zac | apply zad)))
      have n2_ := Aside0.mk (zap (by repeat with_reducible first | exact HB.out | apply zae | apply zac | apply zad) hb)
      clear HO_4
      clear HB
      have HO_4 := n0_
      have HO434 := n1_
      have HB := n2_
      clear n0_ n1_ n2_
      clear hb ho27
      obtain ⟨Ao29, co29, eo29⟩ := Kd.R_slice HO434.out
      (first | subst eo29 | (injection eo29 with f1_ f2_ f3_; have f4_ := f1_.symm; have f5_ := f3_.symm; clear f1_ f2_ f3_; subst f4_; subst f5_))
      refine hK.out _ _ trivial (fun hHeld => ?_)
      clear hK K
      refine norm_ (a' := ?_) ?_ ?_
      rotate_left
      ·
       show Act.put _ (some 48) _ = _
       simp only [aw]
       rfl
      refine one_ (i := 10) (N := some 49) (tm 12 2047) rfl rfl (one_of HT_.out (by kernel_rfl)) (by decide) (fun K hK => ?_)
      refine Kd.R_append_rows_step (Kd.int .u8) (w0 := w) w.heap.size (by rfl) (.tmp 39) (.tmp 48) 49 5 (.int .u8 0) 1 rfl Tryd.underlying49 info5 rfl (by decide) (by omega) u4 x4_1 y432 _ _ _ (fun k_ => some k_ ≠ (.slice Ao29 y432.length co29 : Value).ownBlock) (fun _ => False) rfl rfl ?aO ?aR (fun _ _ h => h) (fun _ h => h.elim) ?aF ?aB ?aS ?aL ?_
      (case aR => repeat (first | exact (Kd.R_reads' HO434.out).2.2 | (with_reducible refine Kd.C_alloc ?_ _) | (with_reducible refine Kd.C_drewN ?_ _) | (with_reducible refine Kd.C_drew ?_)))
      (case aB => exact (by repeat with_reducible first | exact HB.out | apply zae | apply zac | apply zad))
      (case aF => exact (fun k_ hk => Kd.fresh' (Kd.R_lt (by (with_reducible repeat (first | apply Kd.R_alloc | apply Kd.R_drewN | apply Kd.R_drew)); exact HO434.out)) k_ hk))
      (case aO => exact (by (with_reducible repeat (first | apply Kd.R_alloc | apply Kd.R_drewN | apply Kd.R_drew)); exact Kd.R_mono HO_4.out (fun _ hk => hk.2)))
      (case aS => exact (zal (by repeat with_reducible first | exact HB.out | apply zae | apply zac | apply zad)))
      (case aL => have := LMc24.out; omega)
      intro v436 w28 ho hb hg hat
      rw [← Ny435.out] at ho
      have n0_ := Aside0.mk (Kd.R_after (ok := (fun _ => True)) (by (with_reducible repeat (first | apply Kd.R_alloc | apply Kd.R_drewN | apply Kd.R_drew)); exact HO434.out) hg hat)
      have n1_ := Aside0.mk (hb)
      have n2_ := Aside0.mk (ho)
      clear HO434
      clear HB
      clear HO_4
      have HO434 := n0_
      have HB := n1_
      have HO437 := n2_
      clear n0_ n1_ n2_
      clear ho hb hg hat
      refine hK.out _ _ trivial (fun hHeld => ?_)
      clear hK K
      refine norm_ (a' := ?_) ?_ ?_
      rotate_left
      ·
       show Act.put _ (some 49) _ = _
       simp only [aw]
       rfl
      refine pure_ (i := 11) (N := some 4) (v := ?_) (a' := ?_) (tm 12 4095) rfl rfl (zak HT_.out (by kernel_rfl)) (fun _ _ _ h => h) (Or.inl ⟨by rfl, ?_⟩) ?_ ?_
      rotate_left
      ·
       intro w'
       go_simp
       with_reducible rfl
      rotate_left
      ·
       simp only [aw]
       rfl
      refine done_ (done_of HT_.out (by kernel_rfl)) ?_
      try go_wp2
      go_roundg kj6
      case measure => have := HK1.out; have := HJ6.out; omega
      case rel => exact ⟨(y435), (wrap64 (x5_1 + 1)), (by first | rfl | (simp; done) | (simp [*]; done)), H', ⟨by have := HK1.out; have := HJ6.out; omega⟩, ⟨by (with_reducible repeat (first | apply Kd.R_alloc | apply Kd.R_drewN | apply Kd.R_drew)); exact Kd.R_mono HO437.out (fun _ hk => trivial)⟩, ⟨by repeat with_reducible first | exact HB.out | apply zae | apply zac | apply zad⟩⟩
     rw [if_neg c15] at H
     have c15b0 : decide ((bt a0 x5_1) < 32) = false := decide_eq_false c15
     clear c15
     by_cases c30 : (bt a0 x5_1) > 126
     rotate_left
     ·
      rw [if_neg c30] at H
      have c30b0 : decide (126 < (bt a0 x5_1)) = false := decide_eq_false c30
      clear c30
      by_cases c45 : x4_1.length < 140737488355328
      rotate_left
      ·
       rw [if_neg c45] at H
       exact absurd H (by simp)
      rw [if_pos c45] at H
      have LMc45 := Aside0.mk c45
      clear c45
      obtain ⟨y444, hy444⟩ : ∃ y_ : List Int, y_ = (x4_1 ++ [(bt a0 x5_1)]) := ⟨_, rfl⟩
      replace H : (cofferref22_Quote.l0 kj6 a0 (⟨#[48, 49, 50, 51, 52, 53, 54, 55, 56, 57, 97, 98, 99, 100, 101, 102]⟩ : ByteArray) y444 (wrap64 (x5_1 + 1))) = some r := by first | (rw [hy444]; with_reducible exact H) | (have H2_ := (Option.bind_some _ _).symm.trans H; rw [hy444]; with_reducible exact H2_) | (have H2_ := (Option.bind_some _ _).symm.trans H; with_reducible exact H2_) | with_reducible exact H | (rw [hy444]; exact H) | exact H
      have Ny444 := Aside0.mk hy444
      clear hy444
      have H' := Aside0.mk H
      clear H
      go_wp2_with (first | ((with_reducible refine zax (b := .append) (xs := #[.tmp 17, .tmp 19]) rfl ?_); at_builtin; refine Kd.R_append (Kd.int .u8) (w0 := w) w.heap.size rfl (.tmp 17) (.tmp 19) 49 5 (.int .u8 0) 1 rfl Tryd.underlying49 info5 rfl (by decide) (by omega) u4 x4_1 (bt a0 x5_1) [.int .u8 (bt a0 x5_1)] (fun _ => True) (fun _ => False) rfl rfl ?aP (fun _ hk => hk.elim) ?aF ?aO ?aB ?aS ?aL ?_; (case aP => exact rfl); (case aB => exact (by repeat with_reducible first | exact HB.out | apply zae | apply zac | apply zad)); (case aF => exact (fun _ _ => trivial)); (case aO => exact (by (with_reducible repeat (first | apply Kd.R_alloc | apply Kd.R_drewN | apply Kd.R_drew)); exact HO_4.out)); (case aS => exact (zal (by repeat with_reducible first | exact HB.out | apply zae | apply zac | apply zad))); (case aL => have := LMc45.out; omega); intro v445 w46 ho hb hg hat; rw [← Ny444.out] at ho; have n0_ := Aside0.mk (hb); have n1_ := Aside0.mk (ho); clear HB; clear HO_4; have HB := n0_; have HO446 := n1_; clear n0_ n1_; clear ho hb hg hat))
      go_roundg kj6
      case measure => have := HK1.out; have := HJ6.out; omega
      case rel => exact ⟨(y444), (wrap64 (x5_1 + 1)), (by first | rfl | (simp; done) | (simp [*]; done)), H', ⟨by have := HK1.out; have := HJ6.out; omega⟩, ⟨by (with_reducible repeat (first | apply Kd.R_alloc | apply Kd.R_drewN | apply Kd.R_drew)); exact HO446.out⟩, ⟨by repeat with_reducible first | exact HB.out | apply zae | apply zac | apply zad⟩⟩
     rw [if_pos c30] at H
     have c30b0 : decide (126 < (bt a0 x5_1)) = true := decide_eq_true c30
     clear c30
     obtain ⟨ji31, hji31⟩ : ∃ j_ : Int, ((Int.tdiv (bt a0 x5_1) 16) % 256) = j_ := ⟨_, rfl⟩
     replace H : (if 0 ≤ (ji31) then (if (ji31) < ((⟨#[48, 49, 50, 51, 52, 53, 54, 55, 56, 57, 97, 98, 99, 100, 101, 102]⟩ : ByteArray).size : Int) then (if 0 ≤ (Int.tmod (bt a0 x5_1) 16) then (if (Int.tmod (bt a0 x5_1) 16) < ((⟨#[48, 49, 50, 51, 52, 53, 54, 55, 56, 57, 97, 98, 99, 100, 101, 102]⟩ : ByteArray).size : Int) then ((some (([92, 120, bt (⟨#[48, 49, 50, 51, 52, 53, 54, 55, 56, 57, 97, 98, 99, 100, 101, 102]⟩ : ByteArray) (ji31), bt (⟨#[48, 49, 50, 51, 52, 53, 54, 55, 56, 57, 97, 98, 99, 100, 101, 102]⟩ : ByteArray) (Int.tmod (bt a0 x5_1) 16)] : List Int) : List Int)).bind fun y438 => (if x4_1.length + y438.length < 140737488355328 then (cofferref22_Quote.l0 kj6 a0 (⟨#[48, 49, 50, 51, 52, 53, 54, 55, 56, 57, 97, 98, 99, 100, 101, 102]⟩ : ByteArray) (x4_1 ++ y438) (wrap64 (x5_1 + 1))) else (none))) else (none)) else (none)) else (none)) else (none)) = some r := by first | (rw [hji31] at H; exact H) | (simp only [hji31] at H ⊢; exact H)
     have hji31w : (IntKind.u8.wrap (Int.tdiv (bt a0 x5_1) 16)) = ji31 := (IntKind.wrap_u8 _).trans hji31
     by_cases c32 : 0 ≤ (ji31)
     rotate_left
     ·
      rw [if_neg c32] at H
      exact absurd H (by simp)
     rw [if_pos c32] at H
     have c32b0 : decide (0 ≤ (ji31)) = true := decide_eq_true c32
     clear c32
     by_cases c33 : (ji31) < ((⟨#[48, 49, 50, 51, 52, 53, 54, 55, 56, 57, 97, 98, 99, 100, 101, 102]⟩ : ByteArray).size : Int)
     rotate_left
     ·
      rw [if_neg c33] at H
      exact absurd H (by simp)
     rw [if_pos c33] at H
     have c33b0 : decide ((ji31) < ((⟨#[48, 49, 50, 51, 52, 53, 54, 55, 56, 57, 97, 98, 99, 100, 101, 102]⟩ : ByteArray).size : Int)) = true := decide_eq_true c33
     clear c33
     obtain ⟨ji35, hji35⟩ : ∃ j_ : Int, (Int.tmod (bt a0 x5_1) 16) = j_ := ⟨_, rfl⟩
     replace H : (if 0 ≤ (ji35) then (if (ji35) < ((⟨#[48, 49, 50, 51, 52, 53, 54, 55, 56, 57, 97, 98, 99, 100, 101, 102]⟩ : ByteArray).size : Int) then ((some (([92, 120, bt (⟨#[48, 49, 50, 51, 52, 53, 54, 55, 56, 57, 97, 98, 99, 100, 101, 102]⟩ : ByteArray) (ji31), bt (⟨#[48, 49, 50, 51, 52, 53, 54, 55, 56, 57, 97, 98, 99, 100, 101, 102]⟩ : ByteArray) (ji35)] : List Int) : List Int)).bind fun y438 => (if x4_1.length + y438.length < 140737488355328 then (cofferref22_Quote.l0 kj6 a0 (⟨#[48, 49, 50, 51, 52, 53, 54, 55, 56, 57, 97, 98, 99, 100, 101, 102]⟩ : ByteArray) (x4_1 ++ y438) (wrap64 (x5_1 + 1))) else (none))) else (none)) else (none)) = some r := by first | (rw [hji35] at H; exact H) | (simp only [hji35] at H ⊢; exact H)
     by_cases c36 : 0 ≤ (ji35)
     rotate_left
     ·
      rw [if_neg c36] at H
      exact absurd H (by simp)
     rw [if_pos c36] at H
     have c36b0 : decide (0 ≤ (ji35)) = true := decide_eq_true c36
     clear c36
     by_cases c37 : (ji35) < ((⟨#[48, 49, 50, 51, 52, 53, 54, 55, 56, 57, 97, 98, 99, 100, 101, 102]⟩ : ByteArray).size : Int)
     rotate_left
     ·
      rw [if_neg c37] at H
      exact absurd H (by simp)
     rw [if_pos c37] at H
     have c37b0 : decide ((ji35) < ((⟨#[48, 49, 50, 51, 52, 53, 54, 55, 56, 57, 97, 98, 99, 100, 101, 102]⟩ : ByteArray).size : Int)) = true := decide_eq_true c37
     clear c37
     obtain ⟨y438, hy438⟩ : ∃ y_ : List Int, y_ = (([92, 120, bt (⟨#[48, 49, 50, 51, 52, 53, 54, 55, 56, 57, 97, 98, 99, 100, 101, 102]⟩ : ByteArray) (ji31), bt (⟨#[48, 49, 50, 51, 52, 53, 54, 55, 56, 57, 97, 98, 99, 100, 101, 102]⟩ : ByteArray) (ji35)] : List Int)) := ⟨_, rfl⟩
     replace H : (if x4_1.length + y438.length < 140737488355328 then (cofferref22_Quote.l0 kj6 a0 (⟨#[48, 49, 50, 51, 52, 53, 54, 55, 56, 57, 97, 98, 99, 100, 101, 102]⟩ : ByteArray) (x4_1 ++ y438) (wrap64 (x5_1 + 1))) else (none)) = some r := by first | (rw [hy438]; with_reducible exact H) | (have H2_ := (Option.bind_some _ _).symm.trans H; rw [hy438]; with_reducible exact H2_) | (have H2_ := (Option.bind_some _ _).symm.trans H; with_reducible exact H2_) | with_reducible exact H | (rw [hy438]; exact H) | exact H
     have Ny438 := Aside0.mk hy438
     clear hy438
     by_cases c39 : x4_1.length + y438.length < 140737488355328
     rotate_left
     ·
      rw [if_neg c39] at H
      exact absurd H (by simp)
     rw [if_pos c39] at H
     have LMc39 := Aside0.mk c39
     clear c39
     obtain ⟨y441, hy441⟩ : ∃ y_ : List Int, y_ = (x4_1 ++ y438) := ⟨_, rfl⟩
     replace H : (cofferref22_Quote.l0 kj6 a0 (⟨#[48, 49, 50, 51, 52, 53, 54, 55, 56, 57, 97, 98, 99, 100, 101, 102]⟩ : ByteArray) y441 (wrap64 (x5_1 + 1))) = some r := by first | (rw [hy441]; with_reducible exact H) | (have H2_ := (Option.bind_some _ _).symm.trans H; rw [hy441]; with_reducible exact H2_) | (have H2_ := (Option.bind_some _ _).symm.trans H; with_reducible exact H2_) | with_reducible exact H | (rw [hy441]; exact H) | exact H
     have Ny441 := Aside0.mk hy441
     clear hy441
     have H' := Aside0.mk H
     clear H
     try go_wp2
     have n0_ := Aside0.mk (Kd.R_drew HO_4.out)
     have n1_ := Aside0.mk (zad HB.out)
     clear HO_4
     clear HB
     have HO_4 := n0_
     have HB := n1_
     clear n0_ n1_
     have p34 : 0 ≤ ((ji31) : Int) := of_decide_eq_true (by first | (with_reducible assumption) | assumption)
     have q34 : (ji31) < (16 : Int) := of_decide_eq_true (by first | (with_reducible assumption) | assumption)
     have hx34 := bt_at (⟨#[48, 49, 50, 51, 52, 53, 54, 55, 56, 57, 97, 98, 99, 100, 101, 102]⟩ : ByteArray) (ji31)
     replace p34 := eq_true p34
     replace q34 := eq_true q34
     have p38 : 0 ≤ ((ji35) : Int) := of_decide_eq_true (by first | (with_reducible assumption) | assumption)
     have q38 : (ji35) < (16 : Int) := of_decide_eq_true (by first | (with_reducible assumption) | assumption)
     have hx38 := bt_at (⟨#[48, 49, 50, 51, 52, 53, 54, 55, 56, 57, 97, 98, 99, 100, 101, 102]⟩ : ByteArray) (ji35)
     replace p38 := eq_true p38
     replace q38 := eq_true q38
     refine start_ (n := 12) (S := fun w' => True) (ds := []) #[false, false, false, false, false, false, false, false, false, false, false, false] (by kernel_rfl) rfl rfl trivial (fun hHeld => ?_); refine zbp cofferref22_Quote.tab11 cofferref22_Quote.bits11 (fun HT_ HW_ => ?_)
     generalize wc.drew = w40 at HO_4 HB hHeld ⊢
     refine pure_ (i := 0) (N := some 39) (v := ?_) (a' := ?_) (tm 12 1) rfl rfl (zak HT_.out (by kernel_rfl)) (fun _ _ _ h => h) (Or.inl ⟨by rfl, ?_⟩) ?_ ?_
     rotate_left
     ·
      intro w'
      go_simp
      with_reducible rfl
     rotate_left
     ·
      simp only [aw]
      rfl
     refine pure_ (i := 1) (N := some 40) (v := ?_) (a' := ?_) (tm 12 3) rfl rfl (zak HT_.out (by kernel_rfl)) (fun _ _ _ h => h) (Or.inl ⟨by rfl, ?_⟩) ?_ ?_
     rotate_left
     ·
      intro w'
      go_simp
      with_reducible rfl
     rotate_left
     ·
      simp only [aw]
      rfl
     refine pure_ (i := 2) (N := some 41) (v := ?_) (a' := ?_) (tm 12 7) rfl rfl (zak HT_.out (by kernel_rfl)) (fun _ _ _ h => h) (Or.inl ⟨by rfl, ?_⟩) ?_ ?_
     rotate_left
     ·
      intro w'
      go_simp
      with_reducible rfl
     rotate_left
     ·
      simp only [aw]
      rfl
     refine pure_ (i := 3) (N := some 42) (v := ?_) (a' := ?_) (tm 12 15) rfl rfl (zak HT_.out (by kernel_rfl)) (fun _ _ _ h => h) (Or.inl ⟨by rfl, ?_⟩) ?_ ?_
     rotate_left
     ·
      intro w'
      go_simp
      with_reducible rfl
     rotate_left
     ·
      simp only [aw]
      rfl
     refine pure_ (i := 5) (N := some 44) (v := ?_) (a' := ?_) (tm 12 47) rfl rfl (zak HT_.out (by kernel_rfl)) (fun _ _ _ h => h) (Or.inl ⟨by rfl, ?_⟩) ?_ ?_
     rotate_left
     ·
      intro w'
      go_simp
      with_reducible rfl
     rotate_left
     ·
      simp only [aw]
      rfl
     refine pure_ (i := 6) (N := some 45) (v := ?_) (a' := ?_) (tm 12 111) rfl rfl (zak HT_.out (by kernel_rfl)) (fun _ _ _ h => h) (Or.inl ⟨by rfl, ?_⟩) ?_ ?_
     rotate_left
     ·
      intro w'
      go_simp
      with_reducible rfl
     rotate_left
     ·
      simp only [aw]
      rfl
     refine pure_ (i := 7) (N := some 46) (v := ?_) (a' := ?_) (tm 12 239) rfl rfl (zak HT_.out (by kernel_rfl)) (fun _ _ _ h => h) (Or.inl ⟨by rfl, ?_⟩) ?_ ?_
     rotate_left
     ·
      intro w'
      go_simp
      with_reducible rfl
     rotate_left
     ·
      simp only [aw]
      rfl
     refine take_ (i := 4) (N := some 43) (v := ?_) (a' := ?_) #[true, true, true, true, true, true, true, true, false, false, false, false] rfl rfl (zat HT_.out HW_.out (by kernel_rfl)) (fun _ _ _ h => h) (Or.inl ⟨by rfl, ?_⟩) hHeld ?_ ?_
     rotate_left
     ·
      intro w' _
      go_simp
      with_reducible rfl
     rotate_left
     ·
      simp only [aw]
      rfl
     refine take_ (i := 8) (N := some 47) (v := ?_) (a' := ?_) #[true, true, true, true, true, true, true, true, true, false, false, false] rfl rfl (zat HT_.out HW_.out (by kernel_rfl)) (fun _ _ _ h => h) (Or.inl ⟨by rfl, ?_⟩) hHeld ?_ ?_
     rotate_left
     ·
      intro w' _
      go_simp
      with_reducible rfl
     rotate_left
     ·
      simp only [aw]
      rfl
     refine one_ (i := 9) (N := some 48) (tm 12 1023) rfl rfl (one_of HT_.out (by kernel_rfl)) (by decide) (fun K hK => ?_)
     refine Kd.R_lit_step (Kd.int .u8) _ 5 ?hg (N := 48) ?hd (xs := ([92, 120, bt (⟨#[48, 49, 50, 51, 52, 53, 54, 55, 56, 57, 97, 98, 99, 100, 101, 102]⟩ : ByteArray) (ji31), bt (⟨#[48, 49, 50, 51, 52, 53, 54, 55, 56, 57, 97, 98, 99, 100, 101, 102]⟩ : ByteArray) (ji35)] : List Int)) (inner := [.int .u8 92, .int .u8 120, .int .u8 (bt (⟨#[48, 49, 50, 51, 52, 53, 54, 55, 56, 57, 97, 98, 99, 100, 101, 102]⟩ : ByteArray) (ji31)), .int .u8 (bt (⟨#[48, 49, 50, 51, 52, 53, 54, 55, 56, 57, 97, 98, 99, 100, 101, 102]⟩ : ByteArray) (ji35))]) (ok := fun _ => True) (okp := fun _ => True) ?hr ?hp (fun _ hk => hk) trivial (Below.refl _ _) (Nat.le_refl _) (by simp) ?_; (case hd => rfl); (case hg => rfl); (case hr => first | (go_simp; done) | (go_simp; rfl)); (case hp => exact (Reps.one (show Kd.M (Kd.int .u8) _ _ _ 92 [.int .u8 92] from rfl) (Reps.one (show Kd.M (Kd.int .u8) _ _ _ 120 [.int .u8 120] from rfl) (Reps.one (show Kd.M (Kd.int .u8) _ _ _ (bt (⟨#[48, 49, 50, 51, 52, 53, 54, 55, 56, 57, 97, 98, 99, 100, 101, 102]⟩ : ByteArray) (ji31)) [.int .u8 (bt (⟨#[48, 49, 50, 51, 52, 53, 54, 55, 56, 57, 97, 98, 99, 100, 101, 102]⟩ : ByteArray) (ji31))] from rfl) (Reps.one (show Kd.M (Kd.int .u8) _ _ _ (bt (⟨#[48, 49, 50, 51, 52, 53, 54, 55, 56, 57, 97, 98, 99, 100, 101, 102]⟩ : ByteArray) (ji35)) [.int .u8 (bt (⟨#[48, 49, 50, 51, 52, 53, 54, 55, 56, 57, 97, 98, 99, 100, 101, 102]⟩ : ByteArray) (ji35))] from rfl) (Reps.none _ _))))))
     intro v439 w41 ho42 hb hg_ hnew_
     clear hg_ hnew_
     (first | rw [← Ny438.out] at ho42 | (simp only [Int.reduceToNat] at ho42; rw [← Ny438.out] at ho42))
     have n0_ := Aside0.mk (Kd.R_elder' (by (with_reducible repeat (first | apply Kd.R_alloc | apply Kd.R_drewN | apply Kd.R_drew)); exact HO_4.out) (Kd.R_base ho42) hb)
     have n1_ := Aside0.mk (Kd.R_lower (Kd.R_new' ho42 (Kd.R_lt (by (with_reducible repeat (first | apply Kd.R_alloc | apply Kd.R_drewN | apply Kd.R_drew)); exact HO_4.out))) (zal (by repeat with_reducible first | exact HB.out | apply zae | apply zac | apply zad)))
     have n2_ := Aside0.mk (zap (by repeat with_reducible first | exact HB.out | apply zae | apply zac | apply zad) hb)
     clear HO_4
     clear HB
     have HO_4 := n0_
     have HO440 := n1_
     have HB := n2_
     clear n0_ n1_ n2_
     clear hb ho42
     obtain ⟨Ao44, co44, eo44⟩ := Kd.R_slice HO440.out
     (first | subst eo44 | (injection eo44 with f1_ f2_ f3_; have f4_ := f1_.symm; have f5_ := f3_.symm; clear f1_ f2_ f3_; subst f4_; subst f5_))
     refine hK.out _ _ trivial (fun hHeld => ?_)
     clear hK K
     refine norm_ (a' := ?_) ?_ ?_
     rotate_left
     ·
      show Act.put _ (some 48) _ = _
      simp only [aw]
      rfl
     refine one_ (i := 10) (N := some 49) (tm 12 2047) rfl rfl (one_of HT_.out (by kernel_rfl)) (by decide) (fun K hK => ?_)
     refine Kd.R_append_rows_step (Kd.int .u8) (w0 := w) w.heap.size (by rfl) (.tmp 39) (.tmp 48) 49 5 (.int .u8 0) 1 rfl Tryd.underlying49 info5 rfl (by decide) (by omega) u4 x4_1 y438 _ _ _ (fun k_ => some k_ ≠ (.slice Ao44 y438.length co44 : Value).ownBlock) (fun _ => False) rfl rfl ?aO ?aR (fun _ _ h => h) (fun _ h => h.elim) ?aF ?aB ?aS ?aL ?_
     (case aR => repeat (first | exact (Kd.R_reads' HO440.out).2.2 | (with_reducible refine Kd.C_alloc ?_ _) | (with_reducible refine Kd.C_drewN ?_ _) | (with_reducible refine Kd.C_drew ?_)))
     (case aB => exact (by repeat with_reducible first | exact HB.out | apply zae | apply zac | apply zad))
     (case aF => exact (fun k_ hk => Kd.fresh' (Kd.R_lt (by (with_reducible repeat (first | apply Kd.R_alloc | apply Kd.R_drewN | apply Kd.R_drew)); exact HO440.out)) k_ hk))
     (case aO => exact (by (with_reducible repeat (first | apply Kd.R_alloc | apply Kd.R_drewN | apply Kd.R_drew)); exact Kd.R_mono HO_4.out (fun _ hk => hk.2)))
     (case aS => exact (zal (by repeat with_reducible first | exact HB.out | apply zae | apply zac | apply zad)))
     (case aL => have := LMc39.out; omega)
     intro v442 w43 ho hb hg hat
     rw [← Ny441.out] at ho
     have n0_ := Aside0.mk (Kd.R_after (ok := (fun _ => True)) (by (with_reducible repeat (first | apply Kd.R_alloc | apply Kd.R_drewN | apply Kd.R_drew)); exact HO440.out) hg hat)
     have n1_ := Aside0.mk (hb)
     have n2_ := Aside0.mk (ho)
     clear HO440
     clear HB
     clear HO_4
     have HO440 := n0_
     have HB := n1_
     have HO443 := n2_
     clear n0_ n1_ n2_
     clear ho hb hg hat
     refine hK.out _ _ trivial (fun hHeld => ?_)
     clear hK K
     refine norm_ (a' := ?_) ?_ ?_
     rotate_left
     ·
      show Act.put _ (some 49) _ = _
      simp only [aw]
      rfl
     refine pure_ (i := 11) (N := some 4) (v := ?_) (a' := ?_) (tm 12 4095) rfl rfl (zak HT_.out (by kernel_rfl)) (fun _ _ _ h => h) (Or.inl ⟨by rfl, ?_⟩) ?_ ?_
     rotate_left
     ·
      intro w'
      go_simp
      with_reducible rfl
     rotate_left
     ·
      simp only [aw]
      rfl
     refine done_ (done_of HT_.out (by kernel_rfl)) ?_
     try go_wp2
     go_roundg kj6
     case measure => have := HK1.out; have := HJ6.out; omega
     case rel => exact ⟨(y441), (wrap64 (x5_1 + 1)), (by first | rfl | (simp; done) | (simp [*]; done)), H', ⟨by have := HK1.out; have := HJ6.out; omega⟩, ⟨by (with_reducible repeat (first | apply Kd.R_alloc | apply Kd.R_drewN | apply Kd.R_drew)); exact Kd.R_mono HO443.out (fun _ hk => trivial)⟩, ⟨by repeat with_reducible first | exact HB.out | apply zae | apply zac | apply zad⟩⟩

end Go.Proofs.YtdmlgligljagoaaDoor.PS

namespace Go.Proofs.YtdmlgligljagoaaDoor.PS
open Go.RowKit Go.Proofs.YtdmlgligljagoaaDoorW.PrintWords Go.Proofs.YtdmlgligljagoaaDoorW.PrintLast Go.Proofs.YtdmlgligljagoaaDoorW.PrintMore
attribute [local go_sem] zbg zbh max_two min_two zbe zbf zbi zbj   -- for this text's walks alone
set_option linter.unusedVariables false
set_option linter.unusedSimpArgs false

/-! ### cofferref22_later: function 49 -/
def cofferref22_later.f (a0 : Int) : Option (ByteArray × ByteArray) := if a0 = 12 then (some ((⟨#[115, 105, 110, 99, 101]⟩ : ByteArray), (⟨#[98, 115]⟩ : ByteArray))) else (if a0 = 13 then (some ((⟨#[105, 109, 112, 111, 114, 116]⟩ : ByteArray), (⟨#[98, 100]⟩ : ByteArray))) else (if a0 = 14 then (some ((⟨#[97, 112, 112, 108, 121]⟩ : ByteArray), (⟨#[98, 100]⟩ : ByteArray))) else (if a0 = 15 then (some ((⟨#[115, 104, 101, 108, 102]⟩ : ByteArray), (⟨#[98, 110]⟩ : ByteArray))) else (if a0 = 16 then (some ((⟨#[112, 97, 116, 99, 104]⟩ : ByteArray), (⟨#[98, 110]⟩ : ByteArray))) else (if a0 = 17 then (some ((⟨#[102, 97, 108, 108]⟩ : ByteArray), (⟨#[110]⟩ : ByteArray))) else (some ((⟨#[99, 114, 97, 115, 104]⟩ : ByteArray), (⟨#[110, 75]⟩ : ByteArray))))))))
set_option maxHeartbeats 8000000 in
set_option maxRecDepth 100000 in
theorem cofferref22_later.calls (a0 : Int) (r1 : ByteArray) (r2 : ByteArray) (w : World) (h : cofferref22_later.f a0 = some (r1, r2)) :
  Calls Tryd.prog 49 #[.int .i64 a0] w fun e w' => e = .returned (.tuple #[.string r1, .string r2]) ∧ Drawn0 w w' := by
 have H : (if a0 = 12 then (some ((⟨#[115, 105, 110, 99, 101]⟩ : ByteArray), (⟨#[98, 115]⟩ : ByteArray))) else (if a0 = 13 then (some ((⟨#[105, 109, 112, 111, 114, 116]⟩ : ByteArray), (⟨#[98, 100]⟩ : ByteArray))) else (if a0 = 14 then (some ((⟨#[97, 112, 112, 108, 121]⟩ : ByteArray), (⟨#[98, 100]⟩ : ByteArray))) else (if a0 = 15 then (some ((⟨#[115, 104, 101, 108, 102]⟩ : ByteArray), (⟨#[98, 110]⟩ : ByteArray))) else (if a0 = 16 then (some ((⟨#[112, 97, 116, 99, 104]⟩ : ByteArray), (⟨#[98, 110]⟩ : ByteArray))) else (if a0 = 17 then (some ((⟨#[102, 97, 108, 108]⟩ : ByteArray), (⟨#[110]⟩ : ByteArray))) else (some ((⟨#[99, 114, 97, 115, 104]⟩ : ByteArray), (⟨#[110, 75]⟩ : ByteArray))))))))) = some (r1, r2) := h
 clear h
 by_cases c2 : a0 = 12
 ·
  rw [if_pos c2] at H
  have c2b0 : (a0 == 12) = true := beq_iff_eq.mpr c2
  have c2b1 : (a0 != 12) = false := bne_eq_false_iff_eq.mpr c2
  clear c2
  simp only [Option.some.injEq, Prod.mk.injEq] at H
  obtain ⟨rfl, rfl⟩ := H
  go_enter Tryd.func49, Tryd.ntmps49
  go_wp2
  go_ret2
  exact ⟨by first | rfl | (simp; done) | (simp [*]; done), by repeat (first | exact Drawn0.refl _ | apply Drawn0.step)⟩
 rw [if_neg c2] at H
 have c2b0 : (a0 == 12) = false := beq_eq_false_iff_ne.mpr c2
 have c2b1 : (a0 != 12) = true := bne_iff_ne.mpr c2
 by_cases c3 : a0 = 13
 ·
  rw [if_pos c3] at H
  have c3b0 : (a0 == 13) = true := beq_iff_eq.mpr c3
  have c3b1 : (a0 != 13) = false := bne_eq_false_iff_eq.mpr c3
  clear c3
  simp only [Option.some.injEq, Prod.mk.injEq] at H
  obtain ⟨rfl, rfl⟩ := H
  go_enter Tryd.func49, Tryd.ntmps49
  go_wp2
  go_ret2
  exact ⟨by first | rfl | (simp; done) | (simp [*]; done), by repeat (first | exact Drawn0.refl _ | apply Drawn0.step)⟩
 rw [if_neg c3] at H
 have c3b0 : (a0 == 13) = false := beq_eq_false_iff_ne.mpr c3
 have c3b1 : (a0 != 13) = true := bne_iff_ne.mpr c3
 by_cases c4 : a0 = 14
 ·
  rw [if_pos c4] at H
  have c4b0 : (a0 == 14) = true := beq_iff_eq.mpr c4
  have c4b1 : (a0 != 14) = false := bne_eq_false_iff_eq.mpr c4
  clear c4
  simp only [Option.some.injEq, Prod.mk.injEq] at H
  obtain ⟨rfl, rfl⟩ := H
  go_enter Tryd.func49, Tryd.ntmps49
  go_wp2
  go_ret2
  exact ⟨by first | rfl | (simp; done) | (simp [*]; done), by repeat (first | exact Drawn0.refl _ | apply Drawn0.step)⟩
 rw [if_neg c4] at H
 have c4b0 : (a0 == 14) = false := beq_eq_false_iff_ne.mpr c4
 have c4b1 : (a0 != 14) = true := bne_iff_ne.mpr c4
 by_cases c5 : a0 = 15
 ·
  rw [if_pos c5] at H
  have c5b0 : (a0 == 15) = true := beq_iff_eq.mpr c5
  have c5b1 : (a0 != 15) = false := bne_eq_false_iff_eq.mpr c5
  clear c5
  simp only [Option.some.injEq, Prod.mk.injEq] at H
  obtain ⟨rfl, rfl⟩ := H
  go_enter Tryd.func49, Tryd.ntmps49
  go_wp2
  go_ret2
  exact ⟨by first | rfl | (simp; done) | (simp [*]; done), by repeat (first | exact Drawn0.refl _ | apply Drawn0.step)⟩
 rw [if_neg c5] at H
 have c5b0 : (a0 == 15) = false := beq_eq_false_iff_ne.mpr c5
 have c5b1 : (a0 != 15) = true := bne_iff_ne.mpr c5
 by_cases c6 : a0 = 16
 ·
  rw [if_pos c6] at H
  have c6b0 : (a0 == 16) = true := beq_iff_eq.mpr c6
  have c6b1 : (a0 != 16) = false := bne_eq_false_iff_eq.mpr c6
  clear c6
  simp only [Option.some.injEq, Prod.mk.injEq] at H
  obtain ⟨rfl, rfl⟩ := H
  go_enter Tryd.func49, Tryd.ntmps49
  go_wp2
  go_ret2
  exact ⟨by first | rfl | (simp; done) | (simp [*]; done), by repeat (first | exact Drawn0.refl _ | apply Drawn0.step)⟩
 rw [if_neg c6] at H
 have c6b0 : (a0 == 16) = false := beq_eq_false_iff_ne.mpr c6
 have c6b1 : (a0 != 16) = true := bne_iff_ne.mpr c6
 by_cases c7 : a0 = 17
 ·
  rw [if_pos c7] at H
  have c7b0 : (a0 == 17) = true := beq_iff_eq.mpr c7
  have c7b1 : (a0 != 17) = false := bne_eq_false_iff_eq.mpr c7
  clear c7
  simp only [Option.some.injEq, Prod.mk.injEq] at H
  obtain ⟨rfl, rfl⟩ := H
  go_enter Tryd.func49, Tryd.ntmps49
  go_wp2
  go_ret2
  exact ⟨by first | rfl | (simp; done) | (simp [*]; done), by repeat (first | exact Drawn0.refl _ | apply Drawn0.step)⟩
 rw [if_neg c7] at H
 have c7b0 : (a0 == 17) = false := beq_eq_false_iff_ne.mpr c7
 have c7b1 : (a0 != 17) = true := bne_iff_ne.mpr c7
 simp only [Option.some.injEq, Prod.mk.injEq] at H
 obtain ⟨rfl, rfl⟩ := H
 go_enter Tryd.func49, Tryd.ntmps49
 go_wp2
 go_ret2
 exact ⟨by first | rfl | (simp; done) | (simp [*]; done), by repeat (first | exact Drawn0.refl _ | apply Drawn0.step)⟩

end Go.Proofs.YtdmlgligljagoaaDoor.PS

namespace Go.Proofs.YtdmlgligljagoaaDoor.PS
open Go.RowKit Go.Proofs.YtdmlgligljagoaaDoorW.PrintWords Go.Proofs.YtdmlgligljagoaaDoorW.PrintLast Go.Proofs.YtdmlgligljagoaaDoorW.PrintMore
attribute [local go_sem] zbg zbh max_two min_two zbe zbf zbi zbj   -- for this text's walks alone
set_option linter.unusedVariables false
set_option linter.unusedSimpArgs false

/-! ### cofferref22_form: function 37 -/
def cofferref22_form.f (a0 : Int) : Option (ByteArray × ByteArray) := if a0 = 1 then (some ((⟨#[109, 97, 107, 101]⟩ : ByteArray), (⟨#[98]⟩ : ByteArray))) else (if a0 = 2 then (some ((⟨#[100, 114, 111, 112]⟩ : ByteArray), (⟨#[98]⟩ : ByteArray))) else (if a0 = 3 then (some ((⟨#[112, 117, 116]⟩ : ByteArray), (⟨#[98, 107, 100, 77]⟩ : ByteArray))) else (if a0 = 4 then (some ((⟨#[100, 101, 108, 101, 116, 101]⟩ : ByteArray), (⟨#[98, 107]⟩ : ByteArray))) else (if a0 = 5 then (some ((⟨#[114, 101, 109, 111, 118, 101]⟩ : ByteArray), (⟨#[98, 107, 115]⟩ : ByteArray))) else (if a0 = 6 then (some ((⟨#[103, 101, 116]⟩ : ByteArray), (⟨#[98, 107]⟩ : ByteArray))) else (if a0 = 7 then (some ((⟨#[118, 101, 114, 115, 105, 111, 110]⟩ : ByteArray), (⟨#[98, 107, 115]⟩ : ByteArray))) else (if a0 = 8 then (some ((⟨#[108, 105, 115, 116]⟩ : ByteArray), (⟨#[98, 107, 110]⟩ : ByteArray))) else (if a0 = 9 then (some ((⟨#[118, 101, 114, 115, 105, 111, 110, 115]⟩ : ByteArray), (⟨#[98, 107, 110]⟩ : ByteArray))) else (if a0 = 10 then (some ((⟨#[110, 97, 109, 101, 115]⟩ : ByteArray), (⟨#[]⟩ : ByteArray))) else (if a0 = 11 then (some ((⟨#[101, 120, 112, 111, 114, 116]⟩ : ByteArray), (⟨#[98]⟩ : ByteArray))) else ((cofferref22_later.f a0).bind fun bt447 => (some (bt447.1, bt447.2)))))))))))))
set_option maxHeartbeats 8000000 in
set_option maxRecDepth 100000 in
theorem cofferref22_form.calls (a0 : Int) (r1 : ByteArray) (r2 : ByteArray) (w : World) (h : cofferref22_form.f a0 = some (r1, r2)) :
  Calls Tryd.prog 37 #[.int .i64 a0] w fun e w' => e = .returned (.tuple #[.string r1, .string r2]) ∧ Drawn0 w w' := by
 have H : (if a0 = 1 then (some ((⟨#[109, 97, 107, 101]⟩ : ByteArray), (⟨#[98]⟩ : ByteArray))) else (if a0 = 2 then (some ((⟨#[100, 114, 111, 112]⟩ : ByteArray), (⟨#[98]⟩ : ByteArray))) else (if a0 = 3 then (some ((⟨#[112, 117, 116]⟩ : ByteArray), (⟨#[98, 107, 100, 77]⟩ : ByteArray))) else (if a0 = 4 then (some ((⟨#[100, 101, 108, 101, 116, 101]⟩ : ByteArray), (⟨#[98, 107]⟩ : ByteArray))) else (if a0 = 5 then (some ((⟨#[114, 101, 109, 111, 118, 101]⟩ : ByteArray), (⟨#[98, 107, 115]⟩ : ByteArray))) else (if a0 = 6 then (some ((⟨#[103, 101, 116]⟩ : ByteArray), (⟨#[98, 107]⟩ : ByteArray))) else (if a0 = 7 then (some ((⟨#[118, 101, 114, 115, 105, 111, 110]⟩ : ByteArray), (⟨#[98, 107, 115]⟩ : ByteArray))) else (if a0 = 8 then (some ((⟨#[108, 105, 115, 116]⟩ : ByteArray), (⟨#[98, 107, 110]⟩ : ByteArray))) else (if a0 = 9 then (some ((⟨#[118, 101, 114, 115, 105, 111, 110, 115]⟩ : ByteArray), (⟨#[98, 107, 110]⟩ : ByteArray))) else (if a0 = 10 then (some ((⟨#[110, 97, 109, 101, 115]⟩ : ByteArray), (⟨#[]⟩ : ByteArray))) else (if a0 = 11 then (some ((⟨#[101, 120, 112, 111, 114, 116]⟩ : ByteArray), (⟨#[98]⟩ : ByteArray))) else ((cofferref22_later.f a0).bind fun bt447 => (some (bt447.1, bt447.2)))))))))))))) = some (r1, r2) := h
 clear h
 by_cases c2 : a0 = 1
 ·
  rw [if_pos c2] at H
  have c2b0 : (a0 == 1) = true := beq_iff_eq.mpr c2
  have c2b1 : (a0 != 1) = false := bne_eq_false_iff_eq.mpr c2
  clear c2
  simp only [Option.some.injEq, Prod.mk.injEq] at H
  obtain ⟨rfl, rfl⟩ := H
  go_enter Tryd.func37, Tryd.ntmps37
  go_wp2
  go_ret2
  exact ⟨by first | rfl | (simp; done) | (simp [*]; done), by repeat (first | exact Drawn0.refl _ | apply Drawn0.step)⟩
 rw [if_neg c2] at H
 have c2b0 : (a0 == 1) = false := beq_eq_false_iff_ne.mpr c2
 have c2b1 : (a0 != 1) = true := bne_iff_ne.mpr c2
 by_cases c3 : a0 = 2
 ·
  rw [if_pos c3] at H
  have c3b0 : (a0 == 2) = true := beq_iff_eq.mpr c3
  have c3b1 : (a0 != 2) = false := bne_eq_false_iff_eq.mpr c3
  clear c3
  simp only [Option.some.injEq, Prod.mk.injEq] at H
  obtain ⟨rfl, rfl⟩ := H
  go_enter Tryd.func37, Tryd.ntmps37
  go_wp2
  go_ret2
  exact ⟨by first | rfl | (simp; done) | (simp [*]; done), by repeat (first | exact Drawn0.refl _ | apply Drawn0.step)⟩
 rw [if_neg c3] at H
 have c3b0 : (a0 == 2) = false := beq_eq_false_iff_ne.mpr c3
 have c3b1 : (a0 != 2) = true := bne_iff_ne.mpr c3
 by_cases c4 : a0 = 3
 ·
  rw [if_pos c4] at H
  have c4b0 : (a0 == 3) = true := beq_iff_eq.mpr c4
  have c4b1 : (a0 != 3) = false := bne_eq_false_iff_eq.mpr c4
  clear c4
  simp only [Option.some.injEq, Prod.mk.injEq] at H
  obtain ⟨rfl, rfl⟩ := H
  go_enter Tryd.func37, Tryd.ntmps37
  go_wp2
  go_ret2
  exact ⟨by first | rfl | (simp; done) | (simp [*]; done), by repeat (first | exact Drawn0.refl _ | apply Drawn0.step)⟩
 rw [if_neg c4] at H
 have c4b0 : (a0 == 3) = false := beq_eq_false_iff_ne.mpr c4
 have c4b1 : (a0 != 3) = true := bne_iff_ne.mpr c4
 by_cases c5 : a0 = 4
 ·
  rw [if_pos c5] at H
  have c5b0 : (a0 == 4) = true := beq_iff_eq.mpr c5
  have c5b1 : (a0 != 4) = false := bne_eq_false_iff_eq.mpr c5
  clear c5
  simp only [Option.some.injEq, Prod.mk.injEq] at H
  obtain ⟨rfl, rfl⟩ := H
  go_enter Tryd.func37, Tryd.ntmps37
  go_wp2
  go_ret2
  exact ⟨by first | rfl | (simp; done) | (simp [*]; done), by repeat (first | exact Drawn0.refl _ | apply Drawn0.step)⟩
 rw [if_neg c5] at H
 have c5b0 : (a0 == 4) = false := beq_eq_false_iff_ne.mpr c5
 have c5b1 : (a0 != 4) = true := bne_iff_ne.mpr c5
 by_cases c6 : a0 = 5
 ·
  rw [if_pos c6] at H
  have c6b0 : (a0 == 5) = true := beq_iff_eq.mpr c6
  have c6b1 : (a0 != 5) = false := bne_eq_false_iff_eq.mpr c6
  clear c6
  simp only [Option.some.injEq, Prod.mk.injEq] at H
  obtain ⟨rfl, rfl⟩ := H
  go_enter Tryd.func37, Tryd.ntmps37
  go_wp2
  go_ret2
  exact ⟨by first | rfl | (simp; done) | (simp [*]; done), by repeat (first | exact Drawn0.refl _ | apply Drawn0.step)⟩
 rw [if_neg c6] at H
 have c6b0 : (a0 == 5) = false := beq_eq_false_iff_ne.mpr c6
 have c6b1 : (a0 != 5) = true := bne_iff_ne.mpr c6
 by_cases c7 : a0 = 6
 ·
  rw [if_pos c7] at H
  have c7b0 : (a0 == 6) = true := beq_iff_eq.mpr c7
  have c7b1 : (a0 != 6) = false := bne_eq_false_iff_eq.mpr c7
  clear c7
  simp only [Option.some.injEq, Prod.mk.injEq] at H
  obtain ⟨rfl, rfl⟩ := H
  go_enter Tryd.func37, Tryd.ntmps37
  go_wp2
  go_ret2
  exact ⟨by first | rfl | (simp; done) | (simp [*]; done), by repeat (first | exact Drawn0.refl _ | apply Drawn0.step)⟩
 rw [if_neg c7] at H
 have c7b0 : (a0 == 6) = false := beq_eq_false_iff_ne.mpr c7
 have c7b1 : (a0 != 6) = true := bne_iff_ne.mpr c7
 by_cases c8 : a0 = 7
 ·
  rw [if_pos c8] at H
  have c8b0 : (a0 == 7) = true := beq_iff_eq.mpr c8
  have c8b1 : (a0 != 7) = false := bne_eq_false_iff_eq.mpr c8
  clear c8
  simp only [Option.some.injEq, Prod.mk.injEq] at H
  obtain ⟨rfl, rfl⟩ := H
  go_enter Tryd.func37, Tryd.ntmps37
  go_wp2
  go_ret2
  exact ⟨by first | rfl | (simp; done) | (simp [*]; done), by repeat (first | exact Drawn0.refl _ | apply Drawn0.step)⟩
 rw [if_neg c8] at H
 have c8b0 : (a0 == 7) = false := beq_eq_false_iff_ne.mpr c8
 have c8b1 : (a0 != 7) = true := bne_iff_ne.mpr c8
 by_cases c9 : a0 = 8
 ·
  rw [if_pos c9] at H
  have c9b0 : (a0 == 8) = true := beq_iff_eq.mpr c9
  have c9b1 : (a0 != 8) = false := bne_eq_false_iff_eq.mpr c9
  clear c9
  simp only [Option.some.injEq, Prod.mk.injEq] at H
  obtain ⟨rfl, rfl⟩ := H
  go_enter Tryd.func37, Tryd.ntmps37
  go_wp2
  go_ret2
  exact ⟨by first | rfl | (simp; done) | (simp [*]; done), by repeat (first | exact Drawn0.refl _ | apply Drawn0.step)⟩
 rw [if_neg c9] at H
 have c9b0 : (a0 == 8) = false := beq_eq_false_iff_ne.mpr c9
 have c9b1 : (a0 != 8) = true := bne_iff_ne.mpr c9
 by_cases c10 : a0 = 9
 ·
  rw [if_pos c10] at H
  have c10b0 : (a0 == 9) = true := beq_iff_eq.mpr c10
  have c10b1 : (a0 != 9) = false := bne_eq_false_iff_eq.mpr c10
  clear c10
  simp only [Option.some.injEq, Prod.mk.injEq] at H
  obtain ⟨rfl, rfl⟩ := H
  go_enter Tryd.func37, Tryd.ntmps37
  go_wp2
  go_ret2
  exact ⟨by first | rfl | (simp; done) | (simp [*]; done), by repeat (first | exact Drawn0.refl _ | apply Drawn0.step)⟩
 rw [if_neg c10] at H
 have c10b0 : (a0 == 9) = false := beq_eq_false_iff_ne.mpr c10
 have c10b1 : (a0 != 9) = true := bne_iff_ne.mpr c10
 by_cases c11 : a0 = 10
 ·
  rw [if_pos c11] at H
  have c11b0 : (a0 == 10) = true := beq_iff_eq.mpr c11
  have c11b1 : (a0 != 10) = false := bne_eq_false_iff_eq.mpr c11
  clear c11
  simp only [Option.some.injEq, Prod.mk.injEq] at H
  obtain ⟨rfl, rfl⟩ := H
  go_enter Tryd.func37, Tryd.ntmps37
  go_wp2
  go_ret2
  exact ⟨by first | rfl | (simp; done) | (simp [*]; done), by repeat (first | exact Drawn0.refl _ | apply Drawn0.step)⟩
 rw [if_neg c11] at H
 have c11b0 : (a0 == 10) = false := beq_eq_false_iff_ne.mpr c11
 have c11b1 : (a0 != 10) = true := bne_iff_ne.mpr c11
 by_cases c12 : a0 = 11
 ·
  rw [if_pos c12] at H
  have c12b0 : (a0 == 11) = true := beq_iff_eq.mpr c12
  have c12b1 : (a0 != 11) = false := bne_eq_false_iff_eq.mpr c12
  clear c12
  simp only [Option.some.injEq, Prod.mk.injEq] at H
  obtain ⟨rfl, rfl⟩ := H
  go_enter Tryd.func37, Tryd.ntmps37
  go_wp2
  go_ret2
  exact ⟨by first | rfl | (simp; done) | (simp [*]; done), by repeat (first | exact Drawn0.refl _ | apply Drawn0.step)⟩
 rw [if_neg c12] at H
 have c12b0 : (a0 == 11) = false := beq_eq_false_iff_ne.mpr c12
 have c12b1 : (a0 != 11) = true := bne_iff_ne.mpr c12
 replace H := Option.bind_eq_some_iff.mp H
 obtain ⟨⟨t447, t448⟩, A130, H⟩ := H
 replace H : (some (t447, t448)) = some (r1, r2) := H
 have A13 := Aside0.mk A130
 clear A130
 simp only [Option.some.injEq, Prod.mk.injEq] at H
 obtain ⟨rfl, rfl⟩ := H
 go_enter Tryd.func37, Tryd.ntmps37
 go_wp2_with (first | ((with_reducible refine zay (f := 49) rfl ?_); refine goesL_ (some 28) rfl rfl Tryd.func49 (by kernel_rfl) rfl #[.int .i64 a0] rfl (by (try simp only [List.map_toArray, List.map_cons, List.map_nil]); first | done | rfl | (simp only [List.length_drop, List.length_take]; rfl)) ?_; (with_reducible refine (cofferref22_later.calls a0 t447 t448 _ A13.out).mono ?_); rintro e w' ⟨rfl, ⟨nd, rfl⟩⟩; refine ⟨_, rfl, ?_⟩))
 go_ret2
 exact ⟨by first | rfl | (simp; done) | (simp [*]; done), by repeat (first | exact Drawn0.refl _ | apply Drawn0.step)⟩

end Go.Proofs.YtdmlgligljagoaaDoor.PS

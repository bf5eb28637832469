/- The law ScriptQuotes of this seat: coffer/cofferlaw22.ScriptQuotes returns true for every input, and its arguments read as they did. The package-level tables are as the row lists them.
The machine side of some functions, printed for this claim: each function has the answers of a plain one.
Plain law: commands told as the document's.
Plain law: what the document gives: the first answers.
What a row says of a number: it is one of its kind.
Plain law: the law on numbers: three commands there and back; ten lines that are none.
Walk: the law on quoted texts.
What a law's contract gives its row: true is told, and what came in reads as it did. -/
import Derived.Test.YtdmlgligljagoaaDoorProg
import Derived.WalkKit
import Derived.ProofKit
import Derived.OpenShut
import Derived.ShutString
import Derived.Deep.DeepHandedRow
import Derived.Lib.LaidTab
import Derived.Test.YtdmlgligljagoaaDoorCards
import Derived.Test.YtdmlgligljagoaaDoorTie
import Derived.Test.YtdmlgligljagoaaDoorQQ4
namespace Go.Proofs.YtdmlgligljagoaaDoor.PS
open Go.RowKit Go.Proofs.YtdmlgligljagoaaDoorW.PrintWords Go.Proofs.YtdmlgligljagoaaDoorW.PrintLast Go.Proofs.YtdmlgligljagoaaDoorW.PrintMore
attribute [local go_sem] max2_int min2_int max_two min_two zbg zbh max_four min_four   -- for this text's walks alone
set_option linter.unusedVariables false
set_option linter.unusedSimpArgs false

/-! ### cofferlaw22_told: function 15 -/
def cofferlaw22_told.l0 : Nat → List (S36) → List (S57) → Int → Option ((List (S57)))
 | 0, _, _, _ => none
 | k + 1, x0, x3, x4 => if x4 < (x0.length : Int) then (if 0 ≤ x4 then (if ([] : List (S38)).length + ((zaf x0 x4).f3.f4).length < 4398046511104 then (if ([] : List Int).length + ((zaf x0 x4).f3.f7).length < 17592186044416 then (if x3.length < 879609302220 then (cofferlaw22_told.l0 k x0 (x3 ++ [(⟨(zaf x0 x4).f0, (zaf x0 x4).f1, (zaf x0 x4).f2, (⟨(zaf x0 x4).f3.f0, (zaf x0 x4).f3.f1, (zaf x0 x4).f3.f2, (zaf x0 x4).f3.f3, (([] : List (S38)) ++ ((zaf x0 x4).f3.f4)), (zaf x0 x4).f3.f5, (zaf x0 x4).f3.f6, (([] : List Int) ++ ((zaf x0 x4).f3.f7))⟩ : S55), (zaf x0 x4).f4⟩ : S57)]) (wrap64 (x4 + 1))) else (none)) else (none)) else (none)) else (none)) else (some x3)
def cofferlaw22_told.f (k : Nat) (l0 : List (S36)) : Option ((List (S57))) := cofferlaw22_told.l0 k l0 ([] : List (S57)) 0
theorem cofferlaw22_told.mono_l : ∀ k, (∀ y0 y1 y2, LeO (cofferlaw22_told.l0 k y0 y1 y2) (cofferlaw22_told.l0 (k + 1) y0 y1 y2))
 | 0 => fun _ _ _ r h => by simp [cofferlaw22_told.l0] at h
 | k + 1 => by
  have ih0 := cofferlaw22_told.mono_l k
  ·
   intro y0 y1 y2
   unfold cofferlaw22_told.l0
   repeat' first
   | (with_reducible exact ih0 _ _ _)
   | (with_reducible exact LeO.refl _)
   | (with_reducible exact LeO.none _)
   | (with_reducible refine LeO.ite ?_ ?_)
   | (with_reducible refine LeO.bind ?_ (fun _ => ?_))
   | exact ih0 _ _ _
   | exact LeO.none _
   | refine LeO.ite ?_ ?_
   | refine LeO.bind ?_ (fun _ => ?_)
theorem cofferlaw22_told.mono : ∀ a0 k, LeO (cofferlaw22_told.f k a0) (cofferlaw22_told.f (k + 1) a0) := by
 intro a0 k
 have ih0 := cofferlaw22_told.mono_l k
 unfold cofferlaw22_told.f
 repeat' first
   | (with_reducible exact ih0 _ _ _)
   | (with_reducible exact LeO.refl _)
   | (with_reducible exact LeO.none _)
   | (with_reducible refine LeO.ite ?_ ?_)
   | (with_reducible refine LeO.bind ?_ (fun _ => ?_))
   | exact ih0 _ _ _
   | exact LeO.none _
   | refine LeO.ite ?_ ?_
   | refine LeO.bind ?_ (fun _ => ?_)
def cofferlaw22_told.T6 : Bool × List (List Nat × List Nat) := (true, [([], []), ([0], [0]), ([], []), ([2], [2]), ([], []), ([4], [4]), ([], []), ([6], [6]), ([], []), ([8], [8]), ([9], [9]), ([], []), ([11], [11]), ([], []), ([13], [13]), ([], []), ([15], [15]), ([16, 10], [16]), ([1, 3, 5, 7, 10, 12, 14, 17], [1, 3, 5, 7, 10, 12, 14, 17]), ([], []), ([19, 18, 17, 0, 1, 2, 3, 4, 5, 6, 7, 8, 9, 10, 11, 12, 13, 14, 15, 16, 17, 18, 19], [18, 19])])
def cofferlaw22_told.B6 : List Nat := [0, 1, 0, 4, 0, 16, 0, 64, 0, 256, 768, 0, 2048, 0, 8192, 0, 32768, 100096, 262143, 0, 1048575]
theorem cofferlaw22_told.tab6 : rtab .any (opsOf Tryd.f15 6) = cofferlaw22_told.T6 := by kernel_rfl
theorem cofferlaw22_told.bits6 : waitsOk cofferlaw22_told.T6.2 cofferlaw22_told.B6 = true := by kernel_rfl
def cofferlaw22_told.T7 : Bool × List (List Nat × List Nat) := (true, [([], []), ([], []), ([], []), ([1, 2], [1, 2]), ([3], [3]), ([4], [4]), ([], []), ([], []), ([6, 7], [6, 7]), ([8], [8]), ([9], [9]), ([], []), ([], []), ([11, 12], [11, 12]), ([13], [13]), ([14], [14]), ([], []), ([], []), ([], []), ([17, 18], [17, 18]), ([19], [19]), ([20], [20]), ([5, 10, 15, 16, 21], [5, 10, 15, 16, 21]), ([22], [22]), ([0, 23], [0, 23]), ([24, 24, 0, 1, 2, 3, 4, 5, 6, 7, 8, 9, 10, 11, 12, 13, 14, 15, 16, 17, 18, 19, 20, 21, 22, 23, 24], [0, 24])])
def cofferlaw22_told.B7 : List Nat := [0, 0, 0, 6, 14, 30, 0, 0, 192, 448, 960, 0, 0, 6144, 14336, 30720, 0, 0, 0, 393216, 917504, 1966080, 4194302, 8388606, 16777215, 33554431]
theorem cofferlaw22_told.tab7 : rtab .any (opsOf Tryd.f15 7) = cofferlaw22_told.T7 := by kernel_rfl
theorem cofferlaw22_told.bits7 : waitsOk cofferlaw22_told.T7.2 cofferlaw22_told.B7 = true := by kernel_rfl
set_option maxHeartbeats 8000000 in
set_option maxRecDepth 100000 in
theorem cofferlaw22_told.calls (k : Nat) (A0 : Option Addr) (c0 : Nat) (l0 : List (S36)) (r : List (S57)) (w : World) (hr0 : Kd.C k36 w A0 l0.length l0) (hc0 : l0.length ≤ c0) (h : cofferlaw22_told.f k l0 = some r) :
  Calls Tryd.prog 15 #[.slice A0 l0.length c0] w fun e w' => ∃ v0_ : Value, e = .returned (v0_) ∧ Kd.S k57 57 w' w.heap.size (fun _ => True) v0_ r ∧ Below w.heap.size w w' := by
 have hu34 := Tryd.underlying34
 have hu55 := Tryd.underlying55
 have hu57 := Tryd.underlying57
 have HR0 := Aside0.mk hr0
 have HC0 := Aside0.mk hc0
 clear hr0 hc0
 have HB := Aside0.mk (Below.refl w.heap.size w)
 have H : (cofferlaw22_told.l0 k l0 ([] : List (S57)) 0) = some r := h
 clear h
 have H' := Aside0.mk H
 clear H
 go_enter Tryd.func15, Tryd.ntmps15
 go_wp2
 go_loopg [3, 4] k (fun kq v3 v4 w' => ∃ (x3_1 : List (S57)) (x4_1 : Int), v4 = .int .i64 x4_1 ∧ Aside0 (cofferlaw22_told.l0 kq l0 x3_1 x4_1 = some r) ∧ Aside0 (kq ≤ k) ∧ Aside0 (Kd.S k57 57 w' w.heap.size (fun _ => True) v3 x3_1) ∧ Aside0 (Below w.heap.size w w'))
 case atStart => exact ⟨(([] : List (S57))), (0), (by first | rfl | (simp; done) | (simp [*]; done)), H', ⟨Nat.le_refl _⟩, ⟨by first | exact Kd.S_nil _ _ _ _ _ | exact Kd.N_nil _ _ _ _ _ | exact Kd.V_nil _ _ _ _ _ | exact Kd.Q_nil _ _ _ _ _ | exact Kd.R_nil _ _ _ _ _⟩, ⟨by repeat (first | (with_reducible first | exact HB.out | apply zae | apply zab | apply zad) | exact HB.out)⟩⟩
 case round =>
  clear H'
  try clear c1
  obtain ⟨x3_1, x4_1, rfl, HA, HK1, HO_3, HB⟩ := hrel
  cases gk with
  | zero => exact absurd HA.out (by simp [cofferlaw22_told.l0])
  | succ k1 =>
   have H := HA.out
   clear HA
   simp only [cofferlaw22_told.l0] at H
   by_cases c2 : x4_1 < (l0.length : Int)
   ·
    rw [if_pos c2] at H
    have c2b0 : decide (x4_1 < (l0.length : Int)) = true := decide_eq_true c2
    clear c2
    by_cases c3 : 0 ≤ x4_1
    ·
     rw [if_pos c3] at H
     have c3b0 : decide (0 ≤ x4_1) = true := decide_eq_true c3
     clear c3
     by_cases c4 : ([] : List (S38)).length + ((zaf l0 x4_1).f3.f4).length < 4398046511104
     ·
      rw [if_pos c4] at H
      have LMc4 := Aside0.mk c4
      clear c4
      obtain ⟨y169, hy169⟩ : ∃ y_ : List (S38), y_ = (([] : List (S38)) ++ ((zaf l0 x4_1).f3.f4)) := ⟨_, rfl⟩
      replace H : (if ([] : List Int).length + ((zaf l0 x4_1).f3.f7).length < 17592186044416 then (if x3_1.length < 879609302220 then (cofferlaw22_told.l0 k1 l0 (x3_1 ++ [(⟨(zaf l0 x4_1).f0, (zaf l0 x4_1).f1, (zaf l0 x4_1).f2, (⟨(zaf l0 x4_1).f3.f0, (zaf l0 x4_1).f3.f1, (zaf l0 x4_1).f3.f2, (zaf l0 x4_1).f3.f3, y169, (zaf l0 x4_1).f3.f5, (zaf l0 x4_1).f3.f6, (([] : List Int) ++ ((zaf l0 x4_1).f3.f7))⟩ : S55), (zaf l0 x4_1).f4⟩ : S57)]) (wrap64 (x4_1 + 1))) else (none)) else (none)) = some r := by first | (rw [hy169]; with_reducible exact H) | (have H2_ := (Option.bind_some _ _).symm.trans H; rw [hy169]; with_reducible exact H2_) | (have H2_ := (Option.bind_some _ _).symm.trans H; with_reducible exact H2_) | with_reducible exact H | (rw [hy169]; exact H) | exact H
      have Ny169 := Aside0.mk hy169
      clear hy169
      by_cases c5 : ([] : List Int).length + ((zaf l0 x4_1).f3.f7).length < 17592186044416
      ·
       rw [if_pos c5] at H
       have LMc5 := Aside0.mk c5
       clear c5
       obtain ⟨y172, hy172⟩ : ∃ y_ : List Int, y_ = (([] : List Int) ++ ((zaf l0 x4_1).f3.f7)) := ⟨_, rfl⟩
       replace H : (if x3_1.length < 879609302220 then (cofferlaw22_told.l0 k1 l0 (x3_1 ++ [(⟨(zaf l0 x4_1).f0, (zaf l0 x4_1).f1, (zaf l0 x4_1).f2, (⟨(zaf l0 x4_1).f3.f0, (zaf l0 x4_1).f3.f1, (zaf l0 x4_1).f3.f2, (zaf l0 x4_1).f3.f3, y169, (zaf l0 x4_1).f3.f5, (zaf l0 x4_1).f3.f6, y172⟩ : S55), (zaf l0 x4_1).f4⟩ : S57)]) (wrap64 (x4_1 + 1))) else (none)) = some r := by first | (rw [hy172]; with_reducible exact H) | (have H2_ := (Option.bind_some _ _).symm.trans H; rw [hy172]; with_reducible exact H2_) | (have H2_ := (Option.bind_some _ _).symm.trans H; with_reducible exact H2_) | with_reducible exact H | (rw [hy172]; exact H) | exact H
       have Ny172 := Aside0.mk hy172
       clear hy172
       by_cases c6 : x3_1.length < 879609302220
       ·
        rw [if_pos c6] at H
        have LMc6 := Aside0.mk c6
        clear c6
        obtain ⟨y180, hy180⟩ : ∃ y_ : List (S57), y_ = (x3_1 ++ [(⟨(zaf l0 x4_1).f0, (zaf l0 x4_1).f1, (zaf l0 x4_1).f2, (⟨(zaf l0 x4_1).f3.f0, (zaf l0 x4_1).f3.f1, (zaf l0 x4_1).f3.f2, (zaf l0 x4_1).f3.f3, y169, (zaf l0 x4_1).f3.f5, (zaf l0 x4_1).f3.f6, y172⟩ : S55), (zaf l0 x4_1).f4⟩ : S57)]) := ⟨_, rfl⟩
        replace H : (cofferlaw22_told.l0 k1 l0 y180 (wrap64 (x4_1 + 1))) = some r := by first | (rw [hy180]; with_reducible exact H) | (have H2_ := (Option.bind_some _ _).symm.trans H; rw [hy180]; with_reducible exact H2_) | (have H2_ := (Option.bind_some _ _).symm.trans H; with_reducible exact H2_) | with_reducible exact H | (rw [hy180]; exact H) | exact H
        have Ny180 := Aside0.mk hy180
        clear hy180
        have H' := Aside0.mk H
        clear H
        have p167 : 0 ≤ (x4_1 : Int) := of_decide_eq_true (by first | (with_reducible assumption) | assumption)
        have q167 : x4_1 < (l0.length : Int) := of_decide_eq_true (by first | (with_reducible assumption) | assumption)
        obtain ⟨ad167, A167_7, c167_7, A167_10, c167_10, e167, hx167_0, hx167_1, hx167_2, hx167_3, hx167_4, hx167_5, hx167_6, hx167_7, hx167_8, hx167_9, hx167_10, hx167_11, hl167_7, hi167_7, hl167_10, hi167_10⟩ := at_T36 HR0.out x4_1 p167 q167
        cases e167
        replace hx167_0 := (HB.out.cell (World.block_lt_of_cell? w _ hx167_0)).trans hx167_0
        replace hx167_1 := (HB.out.cell (World.block_lt_of_cell? w _ hx167_1)).trans hx167_1
        replace hx167_2 := (HB.out.cell (World.block_lt_of_cell? w _ hx167_2)).trans hx167_2
        replace hx167_3 := (HB.out.cell (World.block_lt_of_cell? w _ hx167_3)).trans hx167_3
        replace hx167_4 := (HB.out.cell (World.block_lt_of_cell? w _ hx167_4)).trans hx167_4
        replace hx167_5 := (HB.out.cell (World.block_lt_of_cell? w _ hx167_5)).trans hx167_5
        replace hx167_6 := (HB.out.cell (World.block_lt_of_cell? w _ hx167_6)).trans hx167_6
        replace hx167_7 := (HB.out.cell (World.block_lt_of_cell? w _ hx167_7)).trans hx167_7
        replace hx167_8 := (HB.out.cell (World.block_lt_of_cell? w _ hx167_8)).trans hx167_8
        replace hx167_9 := (HB.out.cell (World.block_lt_of_cell? w _ hx167_9)).trans hx167_9
        replace hx167_10 := (HB.out.cell (World.block_lt_of_cell? w _ hx167_10)).trans hx167_10
        replace hx167_11 := (HB.out.cell (World.block_lt_of_cell? w _ hx167_11)).trans hx167_11
        have HR167_7 := Aside0.mk hi167_7
        have HC167_7 := Aside0.mk hl167_7
        clear hi167_7 hl167_7
        have HR167_10 := Aside0.mk hi167_10
        have HC167_10 := Aside0.mk hl167_10
        clear hi167_10 hl167_10
        replace p167 := eq_true p167
        replace q167 := eq_true q167
        try go_wp2_with (first | ((with_reducible refine zar (N := 5) rfl ?_); refine zau ?hg (N := 5) ?hd (cs := #[.int .i64 0, .string (⟨#[]⟩ : ByteArray), .string (⟨#[]⟩ : ByteArray), .string (⟨#[]⟩ : ByteArray), .slice none 0 0, .int .i64 0, .int .i64 0, .slice none 0 0]) (t := 34) ?hr ?_; (case hd => rfl); (case hg => rfl); (case hr => first | (go_simp; done) | (go_simp; rfl)); intro gb168 hg w7 hbox hb; have n0_ := Aside0.mk (Kd.S_below (by (with_reducible repeat (first | apply Kd.S_alloc | apply Kd.S_drewN | apply Kd.S_drew)); exact HO_3.out) hb); have n1_ := Aside0.mk (zan (by repeat (first | (with_reducible first | exact HB.out | apply zae | apply zab | apply zad) | exact HB.out)) hb); have n2_ := Aside0.mk (hbox); have n3_ := Aside0.mk ((by rw [hg]; exact (zak (by repeat (first | (with_reducible first | exact HB.out | apply zae | apply zab | apply zad) | exact HB.out))) : w.heap.size ≤ gb168)); have n4_ := Aside0.mk ((by rw [hg]; exact (zak (by repeat (first | (with_reducible first | exact HB.out | apply zae | apply zab | apply zad) | exact HB.out))) : w.heap.size ≤ gb168)); clear HO_3; clear HB; have HO_3 := n0_; have HB := n1_; have BK168 := n2_; have GW168 := n3_; have GE168 := n4_; clear n0_ n1_ n2_ n3_ n4_; clear hb hbox hg; have hcz8_0 : w7.cell? ⟨gb168, 0, none⟩ = some (.int .i64 0) := (zaa BK168.out 0).trans rfl; have hcz8_1 : w7.cell? ⟨gb168, 1, none⟩ = some (.string (⟨#[]⟩ : ByteArray)) := (zaa BK168.out 1).trans rfl; have hcz8_2 : w7.cell? ⟨gb168, 2, none⟩ = some (.string (⟨#[]⟩ : ByteArray)) := (zaa BK168.out 2).trans rfl; have hcz8_3 : w7.cell? ⟨gb168, 3, none⟩ = some (.string (⟨#[]⟩ : ByteArray)) := (zaa BK168.out 3).trans rfl; have hcz8_4 : w7.cell? ⟨gb168, 4, none⟩ = some (.slice none 0 0) := (zaa BK168.out 4).trans rfl; have hcz8_5 : w7.cell? ⟨gb168, 5, none⟩ = some (.int .i64 0) := (zaa BK168.out 5).trans rfl; have hcz8_6 : w7.cell? ⟨gb168, 6, none⟩ = some (.int .i64 0) := (zaa BK168.out 6).trans rfl; have hcz8_7 : w7.cell? ⟨gb168, 7, none⟩ = some (.slice none 0 0) := (zaa BK168.out 7).trans rfl; have hfz8_0 := zac BK168.out 0; have hfz8_1 := zac BK168.out 1; have hfz8_2 := zac BK168.out 2; have hfz8_3 := zac BK168.out 3; have hfz8_4 := zac BK168.out 4; have hfz8_5 := zac BK168.out 5; have hfz8_6 := zac BK168.out 6; have hfz8_7 := zac BK168.out 7))
        have n0_ : Aside0 (Kd.S k57 57 ((((((((w7.setCell ⟨gb168, 0, none⟩ (.int .i64 ((zaf l0 x4_1).f3.f0))).setCell ⟨gb168, 1, none⟩ (.string ((zaf l0 x4_1).f3.f1))).setCell ⟨gb168, 2, none⟩ (.string ((zaf l0 x4_1).f3.f2))).setCell ⟨gb168, 3, none⟩ (.string ((zaf l0 x4_1).f3.f3))).setCell ⟨gb168, 4, none⟩ (.slice A167_7 ((zaf l0 x4_1).f3.f4).length c167_7)).setCell ⟨gb168, 5, none⟩ (.int .i64 ((zaf l0 x4_1).f3.f5))).setCell ⟨gb168, 6, none⟩ (.int .i64 ((zaf l0 x4_1).f3.f6))).setCell ⟨gb168, 7, none⟩ (.slice A167_10 ((zaf l0 x4_1).f3.f7).length c167_10)) w.heap.size (fun _ => True) u3 x3_1) := ⟨by (with_reducible repeat (first | apply Kd.S_alloc | apply Kd.S_drewN | apply Kd.S_drew)); exact Kd.S_mono (Kd.S_far (p := ⟨gb168, 7, none⟩) (Kd.S_far (p := ⟨gb168, 6, none⟩) (Kd.S_far (p := ⟨gb168, 5, none⟩) (Kd.S_far (p := ⟨gb168, 4, none⟩) (Kd.S_far (p := ⟨gb168, 3, none⟩) (Kd.S_far (p := ⟨gb168, 2, none⟩) (Kd.S_far (p := ⟨gb168, 1, none⟩) (Kd.S_far (p := ⟨gb168, 0, none⟩) (Kd.S_types HO_3.out BK168.out (by decide)) (fun _ hk => hk.2) (.int .i64 ((zaf l0 x4_1).f3.f0))) (fun _ hk => hk.2) (.string ((zaf l0 x4_1).f3.f1))) (fun _ hk => hk.2) (.string ((zaf l0 x4_1).f3.f2))) (fun _ hk => hk.2) (.string ((zaf l0 x4_1).f3.f3))) (fun _ hk => hk.2) (.slice A167_7 ((zaf l0 x4_1).f3.f4).length c167_7)) (fun _ hk => hk.2) (.int .i64 ((zaf l0 x4_1).f3.f5))) (fun _ hk => hk.2) (.int .i64 ((zaf l0 x4_1).f3.f6))) (fun _ hk => hk.2) (.slice A167_10 ((zaf l0 x4_1).f3.f7).length c167_10)) (fun _ hk => trivial)⟩
        have n1_ : Aside0 (((((((((w7.setCell ⟨gb168, 0, none⟩ (.int .i64 ((zaf l0 x4_1).f3.f0))).setCell ⟨gb168, 1, none⟩ (.string ((zaf l0 x4_1).f3.f1))).setCell ⟨gb168, 2, none⟩ (.string ((zaf l0 x4_1).f3.f2))).setCell ⟨gb168, 3, none⟩ (.string ((zaf l0 x4_1).f3.f3))).setCell ⟨gb168, 4, none⟩ (.slice A167_7 ((zaf l0 x4_1).f3.f4).length c167_7)).setCell ⟨gb168, 5, none⟩ (.int .i64 ((zaf l0 x4_1).f3.f5))).setCell ⟨gb168, 6, none⟩ (.int .i64 ((zaf l0 x4_1).f3.f6))).setCell ⟨gb168, 7, none⟩ (.slice A167_10 ((zaf l0 x4_1).f3.f7).length c167_10)).heap[gb168]? = some (.cells #[.int .i64 ((zaf l0 x4_1).f3.f0), .string ((zaf l0 x4_1).f3.f1), .string ((zaf l0 x4_1).f3.f2), .string ((zaf l0 x4_1).f3.f3), .slice A167_7 ((zaf l0 x4_1).f3.f4).length c167_7, .int .i64 ((zaf l0 x4_1).f3.f5), .int .i64 ((zaf l0 x4_1).f3.f6), .slice A167_10 ((zaf l0 x4_1).f3.f7).length c167_10] 34 (0, 0))) := ⟨by (with_reducible repeat (first | refine zah ?_ _ | refine zai ?_ | refine zag ?_ _)); refine zao (cs := #[.int .i64 ((zaf l0 x4_1).f3.f0), .string ((zaf l0 x4_1).f3.f1), .string ((zaf l0 x4_1).f3.f2), .string ((zaf l0 x4_1).f3.f3), .slice A167_7 ((zaf l0 x4_1).f3.f4).length c167_7, .int .i64 ((zaf l0 x4_1).f3.f5), .int .i64 ((zaf l0 x4_1).f3.f6), .slice none 0 0]) ?_ 7 _ rfl; (with_reducible repeat (first | refine zah ?_ _ | refine zai ?_ | refine zag ?_ _)); refine zao (cs := #[.int .i64 ((zaf l0 x4_1).f3.f0), .string ((zaf l0 x4_1).f3.f1), .string ((zaf l0 x4_1).f3.f2), .string ((zaf l0 x4_1).f3.f3), .slice A167_7 ((zaf l0 x4_1).f3.f4).length c167_7, .int .i64 ((zaf l0 x4_1).f3.f5), .int .i64 0, .slice none 0 0]) ?_ 6 _ rfl; (with_reducible repeat (first | refine zah ?_ _ | refine zai ?_ | refine zag ?_ _)); refine zao (cs := #[.int .i64 ((zaf l0 x4_1).f3.f0), .string ((zaf l0 x4_1).f3.f1), .string ((zaf l0 x4_1).f3.f2), .string ((zaf l0 x4_1).f3.f3), .slice A167_7 ((zaf l0 x4_1).f3.f4).length c167_7, .int .i64 0, .int .i64 0, .slice none 0 0]) ?_ 5 _ rfl; (with_reducible repeat (first | refine zah ?_ _ | refine zai ?_ | refine zag ?_ _)); refine zao (cs := #[.int .i64 ((zaf l0 x4_1).f3.f0), .string ((zaf l0 x4_1).f3.f1), .string ((zaf l0 x4_1).f3.f2), .string ((zaf l0 x4_1).f3.f3), .slice none 0 0, .int .i64 0, .int .i64 0, .slice none 0 0]) ?_ 4 _ rfl; (with_reducible repeat (first | refine zah ?_ _ | refine zai ?_ | refine zag ?_ _)); refine zao (cs := #[.int .i64 ((zaf l0 x4_1).f3.f0), .string ((zaf l0 x4_1).f3.f1), .string ((zaf l0 x4_1).f3.f2), .string (⟨#[]⟩ : ByteArray), .slice none 0 0, .int .i64 0, .int .i64 0, .slice none 0 0]) ?_ 3 _ rfl; (with_reducible repeat (first | refine zah ?_ _ | refine zai ?_ | refine zag ?_ _)); refine zao (cs := #[.int .i64 ((zaf l0 x4_1).f3.f0), .string ((zaf l0 x4_1).f3.f1), .string (⟨#[]⟩ : ByteArray), .string (⟨#[]⟩ : ByteArray), .slice none 0 0, .int .i64 0, .int .i64 0, .slice none 0 0]) ?_ 2 _ rfl; (with_reducible repeat (first | refine zah ?_ _ | refine zai ?_ | refine zag ?_ _)); refine zao (cs := #[.int .i64 ((zaf l0 x4_1).f3.f0), .string (⟨#[]⟩ : ByteArray), .string (⟨#[]⟩ : ByteArray), .string (⟨#[]⟩ : ByteArray), .slice none 0 0, .int .i64 0, .int .i64 0, .slice none 0 0]) ?_ 1 _ rfl; (with_reducible repeat (first | refine zah ?_ _ | refine zai ?_ | refine zag ?_ _)); refine zao (cs := #[.int .i64 0, .string (⟨#[]⟩ : ByteArray), .string (⟨#[]⟩ : ByteArray), .string (⟨#[]⟩ : ByteArray), .slice none 0 0, .int .i64 0, .int .i64 0, .slice none 0 0]) ?_ 0 _ rfl; (with_reducible repeat (first | refine zah ?_ _ | refine zai ?_ | refine zag ?_ _)); exact BK168.out⟩
        have n2_ : Aside0 (Below w.heap.size w ((((((((w7.setCell ⟨gb168, 0, none⟩ (.int .i64 ((zaf l0 x4_1).f3.f0))).setCell ⟨gb168, 1, none⟩ (.string ((zaf l0 x4_1).f3.f1))).setCell ⟨gb168, 2, none⟩ (.string ((zaf l0 x4_1).f3.f2))).setCell ⟨gb168, 3, none⟩ (.string ((zaf l0 x4_1).f3.f3))).setCell ⟨gb168, 4, none⟩ (.slice A167_7 ((zaf l0 x4_1).f3.f4).length c167_7)).setCell ⟨gb168, 5, none⟩ (.int .i64 ((zaf l0 x4_1).f3.f5))).setCell ⟨gb168, 6, none⟩ (.int .i64 ((zaf l0 x4_1).f3.f6))).setCell ⟨gb168, 7, none⟩ (.slice A167_10 ((zaf l0 x4_1).f3.f7).length c167_10))) := ⟨by repeat (first | (with_reducible first | exact HB.out | apply zae | apply zab | apply zad | refine zaj ?_ GE168.out) | exact HB.out)⟩
        (try clear HO_3)
        (try clear BK168)
        (try clear HB)
        generalize ((((((((w7.setCell ⟨gb168, 0, none⟩ (.int .i64 ((zaf l0 x4_1).f3.f0))).setCell ⟨gb168, 1, none⟩ (.string ((zaf l0 x4_1).f3.f1))).setCell ⟨gb168, 2, none⟩ (.string ((zaf l0 x4_1).f3.f2))).setCell ⟨gb168, 3, none⟩ (.string ((zaf l0 x4_1).f3.f3))).setCell ⟨gb168, 4, none⟩ (.slice A167_7 ((zaf l0 x4_1).f3.f4).length c167_7)).setCell ⟨gb168, 5, none⟩ (.int .i64 ((zaf l0 x4_1).f3.f5))).setCell ⟨gb168, 6, none⟩ (.int .i64 ((zaf l0 x4_1).f3.f6))).setCell ⟨gb168, 7, none⟩ (.slice A167_10 ((zaf l0 x4_1).f3.f7).length c167_10)) = w9 at n0_ n1_ n2_ ⊢
        have HO_3 := n0_
        have BK168 := n1_
        have HB := n2_
        clear n0_ n1_ n2_
        have n0_ := Aside0.mk (Kd.S_drew HO_3.out)
        have n1_ := Aside0.mk (zai BK168.out)
        have n2_ := Aside0.mk (zad HB.out)
        clear HO_3
        clear BK168
        clear HB
        have HO_3 := n0_
        have BK168 := n1_
        have HB := n2_
        clear n0_ n1_ n2_
        refine start_ (n := 21) (S := fun w' => w'.cell? ⟨gb168, 0, none⟩ = some (.int .i64 ((zaf l0 x4_1).f3.f0)) ∧ w'.cell? ⟨gb168, 1, none⟩ = some (.string ((zaf l0 x4_1).f3.f1)) ∧ w'.cell? ⟨gb168, 2, none⟩ = some (.string ((zaf l0 x4_1).f3.f2)) ∧ w'.cell? ⟨gb168, 3, none⟩ = some (.string ((zaf l0 x4_1).f3.f3)) ∧ w'.cell? ⟨gb168, 4, none⟩ = some (.slice A167_7 ((zaf l0 x4_1).f3.f4).length c167_7) ∧ w'.cell? ⟨gb168, 5, none⟩ = some (.int .i64 ((zaf l0 x4_1).f3.f5)) ∧ w'.cell? ⟨gb168, 6, none⟩ = some (.int .i64 ((zaf l0 x4_1).f3.f6)) ∧ w'.cell? ⟨gb168, 7, none⟩ = some (.slice A167_10 ((zaf l0 x4_1).f3.f7).length c167_10)) (ds := []) #[false, false, false, false, false, false, false, false, false, false, false, false, false, false, false, false, false, false, false, false, false] (by kernel_rfl) rfl rfl ⟨(zaa BK168.out 0).trans rfl, (zaa BK168.out 1).trans rfl, (zaa BK168.out 2).trans rfl, (zaa BK168.out 3).trans rfl, (zaa BK168.out 4).trans rfl, (zaa BK168.out 5).trans rfl, (zaa BK168.out 6).trans rfl, (zaa BK168.out 7).trans rfl⟩ (fun hHeld => ?_); refine with_tabW cofferlaw22_told.tab6 cofferlaw22_told.bits6 (fun HT_ HW_ => ?_)
        generalize w9.drew = w10 at HO_3 BK168 HB hHeld ⊢
        refine pure_ (i := 0) (N := some 18) (v := ?_) (a' := ?_) #[true, false, false, false, false, false, false, false, false, false, false, false, false, false, false, false, false, false, false, false, false] rfl rfl (zap HT_.out (by kernel_rfl)) (fun _ _ _ h => h) (Or.inl ⟨by rfl, ?_⟩) ?_ ?_
        rotate_left
        ·
         intro w'
         go_simp
         with_reducible rfl
        rotate_left
        ·
         simp only [Act.put, List.setIfInBounds_toArray, List.set_cons_zero, List.set_cons_succ, i64_w, i32_w]
         rfl
        refine pure_ (i := 2) (N := some 20) (v := ?_) (a' := ?_) #[true, false, true, false, false, false, false, false, false, false, false, false, false, false, false, false, false, false, false, false, false] rfl rfl (zap HT_.out (by kernel_rfl)) (fun _ _ _ h => h) (Or.inl ⟨by rfl, ?_⟩) ?_ ?_
        rotate_left
        ·
         intro w'
         go_simp
         with_reducible rfl
        rotate_left
        ·
         simp only [Act.put, List.setIfInBounds_toArray, List.set_cons_zero, List.set_cons_succ, i64_w, i32_w]
         rfl
        refine pure_ (i := 4) (N := some 22) (v := ?_) (a' := ?_) #[true, false, true, false, true, false, false, false, false, false, false, false, false, false, false, false, false, false, false, false, false] rfl rfl (zap HT_.out (by kernel_rfl)) (fun _ _ _ h => h) (Or.inl ⟨by rfl, ?_⟩) ?_ ?_
        rotate_left
        ·
         intro w'
         go_simp
         with_reducible rfl
        rotate_left
        ·
         simp only [Act.put, List.setIfInBounds_toArray, List.set_cons_zero, List.set_cons_succ, i64_w, i32_w]
         rfl
        refine pure_ (i := 6) (N := some 24) (v := ?_) (a' := ?_) #[true, false, true, false, true, false, true, false, false, false, false, false, false, false, false, false, false, false, false, false, false] rfl rfl (zap HT_.out (by kernel_rfl)) (fun _ _ _ h => h) (Or.inl ⟨by rfl, ?_⟩) ?_ ?_
        rotate_left
        ·
         intro w'
         go_simp
         with_reducible rfl
        rotate_left
        ·
         simp only [Act.put, List.setIfInBounds_toArray, List.set_cons_zero, List.set_cons_succ, i64_w, i32_w]
         rfl
        refine pure_ (i := 8) (N := some 26) (v := ?_) (a' := ?_) #[true, false, true, false, true, false, true, false, true, false, false, false, false, false, false, false, false, false, false, false, false] rfl rfl (zap HT_.out (by kernel_rfl)) (fun _ _ _ h => h) (Or.inl ⟨by rfl, ?_⟩) ?_ ?_
        rotate_left
        ·
         intro w'
         go_simp
         with_reducible rfl
        rotate_left
        ·
         simp only [Act.put, List.setIfInBounds_toArray, List.set_cons_zero, List.set_cons_succ, i64_w, i32_w]
         rfl
        refine pure_ (i := 11) (N := some 29) (v := ?_) (a' := ?_) #[true, false, true, false, true, false, true, false, true, false, false, true, false, false, false, false, false, false, false, false, false] rfl rfl (zap HT_.out (by kernel_rfl)) (fun _ _ _ h => h) (Or.inl ⟨by rfl, ?_⟩) ?_ ?_
        rotate_left
        ·
         intro w'
         go_simp
         with_reducible rfl
        rotate_left
        ·
         simp only [Act.put, List.setIfInBounds_toArray, List.set_cons_zero, List.set_cons_succ, i64_w, i32_w]
         rfl
        refine pure_ (i := 13) (N := some 31) (v := ?_) (a' := ?_) #[true, false, true, false, true, false, true, false, true, false, false, true, false, true, false, false, false, false, false, false, false] rfl rfl (zap HT_.out (by kernel_rfl)) (fun _ _ _ h => h) (Or.inl ⟨by rfl, ?_⟩) ?_ ?_
        rotate_left
        ·
         intro w'
         go_simp
         with_reducible rfl
        rotate_left
        ·
         simp only [Act.put, List.setIfInBounds_toArray, List.set_cons_zero, List.set_cons_succ, i64_w, i32_w]
         rfl
        refine pure_ (i := 15) (N := some 33) (v := ?_) (a' := ?_) #[true, false, true, false, true, false, true, false, true, false, false, true, false, true, false, true, false, false, false, false, false] rfl rfl (zap HT_.out (by kernel_rfl)) (fun _ _ _ h => h) (Or.inl ⟨by rfl, ?_⟩) ?_ ?_
        rotate_left
        ·
         intro w'
         go_simp
         with_reducible rfl
        rotate_left
        ·
         simp only [Act.put, List.setIfInBounds_toArray, List.set_cons_zero, List.set_cons_succ, i64_w, i32_w]
         rfl
        refine take_ (i := 1) (N := some 19) (v := ?_) (a' := ?_) #[true, true, true, false, true, false, true, false, true, false, false, true, false, true, false, true, false, false, false, false, false] rfl rfl (zbe HT_.out HW_.out (by kernel_rfl)) (fun _ _ _ h => h) (Or.inl ⟨by rfl, ?_⟩) hHeld ?_ ?_
        rotate_left
        ·
         rintro w' ⟨s0, s1, s2, s3, s4, s5, s6, s7⟩
         go_simp
         with_reducible rfl
        rotate_left
        ·
         simp only [Act.put, List.setIfInBounds_toArray, List.set_cons_zero, List.set_cons_succ, i64_w, i32_w]
         rfl
        refine take_ (i := 3) (N := some 21) (v := ?_) (a' := ?_) #[true, true, true, true, true, false, true, false, true, false, false, true, false, true, false, true, false, false, false, false, false] rfl rfl (zbe HT_.out HW_.out (by kernel_rfl)) (fun _ _ _ h => h) (Or.inl ⟨by rfl, ?_⟩) hHeld ?_ ?_
        rotate_left
        ·
         rintro w' ⟨s0, s1, s2, s3, s4, s5, s6, s7⟩
         go_simp
         with_reducible rfl
        rotate_left
        ·
         simp only [Act.put, List.setIfInBounds_toArray, List.set_cons_zero, List.set_cons_succ, i64_w, i32_w]
         rfl
        refine take_ (i := 5) (N := some 23) (v := ?_) (a' := ?_) #[true, true, true, true, true, true, true, false, true, false, false, true, false, true, false, true, false, false, false, false, false] rfl rfl (zbe HT_.out HW_.out (by kernel_rfl)) (fun _ _ _ h => h) (Or.inl ⟨by rfl, ?_⟩) hHeld ?_ ?_
        rotate_left
        ·
         rintro w' ⟨s0, s1, s2, s3, s4, s5, s6, s7⟩
         go_simp
         with_reducible rfl
        rotate_left
        ·
         simp only [Act.put, List.setIfInBounds_toArray, List.set_cons_zero, List.set_cons_succ, i64_w, i32_w]
         rfl
        refine take_ (i := 7) (N := some 25) (v := ?_) (a' := ?_) #[true, true, true, true, true, true, true, true, true, false, false, true, false, true, false, true, false, false, false, false, false] rfl rfl (zbe HT_.out HW_.out (by kernel_rfl)) (fun _ _ _ h => h) (Or.inl ⟨by rfl, ?_⟩) hHeld ?_ ?_
        rotate_left
        ·
         rintro w' ⟨s0, s1, s2, s3, s4, s5, s6, s7⟩
         go_simp
         with_reducible rfl
        rotate_left
        ·
         simp only [Act.put, List.setIfInBounds_toArray, List.set_cons_zero, List.set_cons_succ, i64_w, i32_w]
         rfl
        refine take_ (i := 9) (N := some 27) (v := ?_) (a' := ?_) #[true, true, true, true, true, true, true, true, true, true, false, true, false, true, false, true, false, false, false, false, false] rfl rfl (zbe HT_.out HW_.out (by kernel_rfl)) (fun _ _ _ h => h) (Or.inl ⟨by rfl, ?_⟩) hHeld ?_ ?_
        rotate_left
        ·
         rintro w' ⟨s0, s1, s2, s3, s4, s5, s6, s7⟩
         go_simp
         with_reducible rfl
        rotate_left
        ·
         simp only [Act.put, List.setIfInBounds_toArray, List.set_cons_zero, List.set_cons_succ, i64_w, i32_w]
         rfl
        refine take_ (i := 12) (N := some 30) (v := ?_) (a' := ?_) #[true, true, true, true, true, true, true, true, true, true, false, true, true, true, false, true, false, false, false, false, false] rfl rfl (zbe HT_.out HW_.out (by kernel_rfl)) (fun _ _ _ h => h) (Or.inl ⟨by rfl, ?_⟩) hHeld ?_ ?_
        rotate_left
        ·
         rintro w' ⟨s0, s1, s2, s3, s4, s5, s6, s7⟩
         go_simp
         with_reducible rfl
        rotate_left
        ·
         simp only [Act.put, List.setIfInBounds_toArray, List.set_cons_zero, List.set_cons_succ, i64_w, i32_w]
         rfl
        refine take_ (i := 14) (N := some 32) (v := ?_) (a' := ?_) #[true, true, true, true, true, true, true, true, true, true, false, true, true, true, true, true, false, false, false, false, false] rfl rfl (zbe HT_.out HW_.out (by kernel_rfl)) (fun _ _ _ h => h) (Or.inl ⟨by rfl, ?_⟩) hHeld ?_ ?_
        rotate_left
        ·
         rintro w' ⟨s0, s1, s2, s3, s4, s5, s6, s7⟩
         go_simp
         with_reducible rfl
        rotate_left
        ·
         simp only [Act.put, List.setIfInBounds_toArray, List.set_cons_zero, List.set_cons_succ, i64_w, i32_w]
         rfl
        refine take_ (i := 16) (N := some 34) (v := ?_) (a' := ?_) #[true, true, true, true, true, true, true, true, true, true, false, true, true, true, true, true, true, false, false, false, false] rfl rfl (zbe HT_.out HW_.out (by kernel_rfl)) (fun _ _ _ h => h) (Or.inl ⟨by rfl, ?_⟩) hHeld ?_ ?_
        rotate_left
        ·
         rintro w' ⟨s0, s1, s2, s3, s4, s5, s6, s7⟩
         go_simp
         with_reducible rfl
        rotate_left
        ·
         simp only [Act.put, List.setIfInBounds_toArray, List.set_cons_zero, List.set_cons_succ, i64_w, i32_w]
         rfl
        refine join_ (σ := Value × Value × Nat) 1 #[true, true, true, true, true, true, true, true, true, true, true, true, true, true, true, true, true, true, true, true, false] (fun s_ => [(28, s_.1), (35, s_.2.1), (6, .pointer (some ⟨s_.2.2, 0, none⟩)), (36, .agg #[.int .i64 ((zaf l0 x4_1).f3.f0), .string ((zaf l0 x4_1).f3.f1), .string ((zaf l0 x4_1).f3.f2), .string ((zaf l0 x4_1).f3.f3), s_.1, .int .i64 ((zaf l0 x4_1).f3.f5), .int .i64 ((zaf l0 x4_1).f3.f6), s_.2.1])]) (fun s_ w' => (w'.cell? ⟨gb168, 0, none⟩ = some (.int .i64 ((zaf l0 x4_1).f3.f0)) ∧ w'.cell? ⟨gb168, 1, none⟩ = some (.string ((zaf l0 x4_1).f3.f1)) ∧ w'.cell? ⟨gb168, 2, none⟩ = some (.string ((zaf l0 x4_1).f3.f2)) ∧ w'.cell? ⟨gb168, 3, none⟩ = some (.string ((zaf l0 x4_1).f3.f3)) ∧ w'.cell? ⟨gb168, 4, none⟩ = some (.slice A167_7 ((zaf l0 x4_1).f3.f4).length c167_7) ∧ w'.cell? ⟨gb168, 5, none⟩ = some (.int .i64 ((zaf l0 x4_1).f3.f5)) ∧ w'.cell? ⟨gb168, 6, none⟩ = some (.int .i64 ((zaf l0 x4_1).f3.f6)) ∧ w'.cell? ⟨gb168, 7, none⟩ = some (.slice A167_10 ((zaf l0 x4_1).f3.f7).length c167_10)) ∧ (Kd.R k38 38 w' w.heap.size (fun _ => True) s_.1 y169) ∧ (Kd.R (Kd.int .i64) 3 w' w.heap.size (fun _ => True) s_.2.1 y172) ∧ (Kd.S k57 57 w' w.heap.size (fun k_ => some k_ ≠ (s_.1 : Value).ownBlock ∧ some k_ ≠ (s_.2.1 : Value).ownBlock) u3 x3_1) ∧ (w'.heap[gb168]? = some (.cells #[.int .i64 ((zaf l0 x4_1).f3.f0), .string ((zaf l0 x4_1).f3.f1), .string ((zaf l0 x4_1).f3.f2), .string ((zaf l0 x4_1).f3.f3), .slice A167_7 ((zaf l0 x4_1).f3.f4).length c167_7, .int .i64 ((zaf l0 x4_1).f3.f5), .int .i64 ((zaf l0 x4_1).f3.f6), .slice A167_10 ((zaf l0 x4_1).f3.f7).length c167_10] 34 (0, 0))) ∧ (w'.heap[s_.2.2]? = some (.cells #[.int .i64 0, .string (⟨#[]⟩ : ByteArray), .string (⟨#[]⟩ : ByteArray), .string (⟨#[]⟩ : ByteArray), .slice none 0 0, .int .i64 0, .int .i64 0, .slice none 0 0] 55 (0, 0))) ∧ (w.heap.size ≤ s_.2.2) ∧ (w.heap.size ≤ s_.2.2) ∧ (gb168 ≠ s_.2.2) ∧ (s_.2.2 ≠ gb168) ∧ (Below w.heap.size w w')) ?_ ?_
        rotate_left
        ·
         intro hCont
         refine two_ (i := 10) (j := 19) (Ni := some 28) (Nj := some 6) #[true, true, true, true, true, true, true, true, true, true, true, true, true, true, true, true, true, false, false, false, false] #[true, true, true, true, true, true, true, true, true, true, false, true, true, true, true, true, true, false, false, true, false] rfl rfl rfl rfl (two_of HT_.out (by kernel_rfl)) (by decide) (by decide) (fun K hK => ?_) (fun K hK => ?_)
         ·
          skip
          refine Kd.R_append_rows_step k38 (w0 := w) w.heap.size (by rfl) (.const (.slice none 0 0)) (.tmp 27) 31 38 (.agg #[(.string ⟨#[]⟩), (.string ⟨#[]⟩)]) 32 rfl Tryd.underlying31 info38 rfl (by decide) (by omega) (.slice none 0 0) ([] : List (S38)) ((zaf l0 x4_1).f3.f4) _ _ _ (fun _ => True) (fun _ => False) rfl rfl ?aO ?aR (fun _ _ h => h) (fun _ h => h.elim) ?aF ?aB ?aS ?aL ?_
          (case aR => repeat (first | exact (Kd.C_below HR167_7.out HB.out) | (with_reducible refine Kd.C_alloc ?_ _) | (with_reducible refine Kd.C_drewN ?_ _) | (with_reducible refine Kd.C_drew ?_)))
          (case aB => exact (by repeat (first | (with_reducible first | exact HB.out | apply zae | apply zab | apply zad | refine zaj ?_ GE168.out) | exact HB.out)))
          (case aF => exact (fun _ _ => trivial))
          (case aO => exact ((Kd.R_nil _ _ _ _ (fun _ => True))))
          (case aS => exact (zak (by repeat (first | (with_reducible first | exact HB.out | apply zae | apply zab | apply zad | refine zaj ?_ GE168.out) | exact HB.out))))
          (case aL => have := LMc4.out; omega)
          intro v170 w11 ho hb hg hat
          rw [← Ny169.out] at ho
          have n0_ := Aside0.mk (Kd.S_after (Kd.S_apart_nil (by (with_reducible repeat (first | apply Kd.S_alloc | apply Kd.S_drewN | apply Kd.S_drew)); exact HO_3.out)) hg hat)
          have n1_ := Aside0.mk (zbj (g := gb168) (o := .cells #[.int .i64 ((zaf l0 x4_1).f3.f0), .string ((zaf l0 x4_1).f3.f1), .string ((zaf l0 x4_1).f3.f2), .string ((zaf l0 x4_1).f3.f3), .slice A167_7 ((zaf l0 x4_1).f3.f4).length c167_7, .int .i64 ((zaf l0 x4_1).f3.f5), .int .i64 ((zaf l0 x4_1).f3.f6), .slice A167_10 ((zaf l0 x4_1).f3.f7).length c167_10] 34 (0, 0)) (by (with_reducible repeat (first | refine zah ?_ _ | refine zai ?_ | refine zag ?_ _)); exact BK168.out) hg (by simp [Value.ownBlock]))
          have n2_ := Aside0.mk (hb)
          have n3_ := Aside0.mk (ho)
          clear HO_3
          clear BK168
          clear HB
          have HO_3 := n0_
          have BK168 := n1_
          have HB := n2_
          have HO171 := n3_
          clear n0_ n1_ n2_ n3_
          clear ho hb hg hat
          refine hK.out _ _ ⟨(zaa BK168.out 0).trans rfl, (zaa BK168.out 1).trans rfl, (zaa BK168.out 2).trans rfl, (zaa BK168.out 3).trans rfl, (zaa BK168.out 4).trans rfl, (zaa BK168.out 5).trans rfl, (zaa BK168.out 6).trans rfl, (zaa BK168.out 7).trans rfl⟩ (fun hHeld => ?_)
          clear hK K
          refine norm_ (a' := ?_) ?_ ?_
          rotate_left
          ·
           show Act.put _ (some 28) _ = _
           simp only [Act.put, List.setIfInBounds_toArray, List.set_cons_zero, List.set_cons_succ, i64_w, i32_w]
           rfl
          refine two_ (i := 17) (j := 19) (Ni := some 35) (Nj := some 6) #[true, true, true, true, true, true, true, true, true, true, true, true, true, true, true, true, true, true, false, false, false] #[true, true, true, true, true, true, true, true, true, true, true, true, true, true, true, true, true, false, false, true, false] rfl rfl rfl rfl (two_of HT_.out (by kernel_rfl)) (by decide) (by decide) (fun K hK => ?_) (fun K hK => ?_)
          ·
           skip
           refine Kd.R_append_rows_step (Kd.int .i64) (w0 := w) w.heap.size (by rfl) (.const (.slice none 0 0)) (.tmp 34) 32 3 (.int .i64 0) 8 rfl Tryd.underlying32 info3 rfl (by decide) (by omega) (.slice none 0 0) ([] : List Int) ((zaf l0 x4_1).f3.f7) _ _ _ (fun _ => True) (fun _ => False) rfl rfl ?aO ?aR (fun _ _ h => h) (fun _ h => h.elim) ?aF ?aB ?aS ?aL ?_
           (case aR => repeat (first | exact (Kd.C_below HR167_10.out HB.out) | (with_reducible refine Kd.C_alloc ?_ _) | (with_reducible refine Kd.C_drewN ?_ _) | (with_reducible refine Kd.C_drew ?_)))
           (case aB => exact (by repeat (first | (with_reducible first | exact HB.out | apply zae | apply zab | apply zad | refine zaj ?_ GE168.out) | exact HB.out)))
           (case aF => exact (fun _ _ => trivial))
           (case aO => exact ((Kd.R_nil _ _ _ _ (fun _ => True))))
           (case aS => exact (zak (by repeat (first | (with_reducible first | exact HB.out | apply zae | apply zab | apply zad | refine zaj ?_ GE168.out) | exact HB.out))))
           (case aL => have := LMc5.out; omega)
           intro v173 w12 ho hb hg hat
           rw [← Ny172.out] at ho
           have n0_ := Aside0.mk (Kd.S_after (Kd.S_apart_nil (by (with_reducible repeat (first | apply Kd.S_alloc | apply Kd.S_drewN | apply Kd.S_drew)); exact HO_3.out)) hg hat)
           have n1_ := Aside0.mk (zbj (g := gb168) (o := .cells #[.int .i64 ((zaf l0 x4_1).f3.f0), .string ((zaf l0 x4_1).f3.f1), .string ((zaf l0 x4_1).f3.f2), .string ((zaf l0 x4_1).f3.f3), .slice A167_7 ((zaf l0 x4_1).f3.f4).length c167_7, .int .i64 ((zaf l0 x4_1).f3.f5), .int .i64 ((zaf l0 x4_1).f3.f6), .slice A167_10 ((zaf l0 x4_1).f3.f7).length c167_10] 34 (0, 0)) (by (with_reducible repeat (first | refine zah ?_ _ | refine zai ?_ | refine zag ?_ _)); exact BK168.out) hg (by simp [Value.ownBlock]))
           have n2_ := Aside0.mk (Kd.R_grown (by (with_reducible repeat (first | apply Kd.R_alloc | apply Kd.R_drewN | apply Kd.R_drew)); exact HO171.out) hg (fun _ _ => by simp [Value.ownBlock]))
           have n3_ := Aside0.mk (hb)
           have n4_ := Aside0.mk (ho)
           clear HO_3
           clear BK168
           clear HO171
           clear HB
           have HO_3 := n0_
           have BK168 := n1_
           have HO171 := n2_
           have HB := n3_
           have HO174 := n4_
           clear n0_ n1_ n2_ n3_ n4_
           clear ho hb hg hat
           obtain ⟨Ao13, co13, eo13⟩ := Kd.R_slice HO174.out
           (first | subst eo13 | (injection eo13 with f1_ f2_ f3_; have f4_ := f1_.symm; have f5_ := f3_.symm; clear f1_ f2_ f3_; subst f4_; subst f5_))
           obtain ⟨Ao14, co14, eo14⟩ := Kd.R_slice HO171.out
           (first | subst eo14 | (injection eo14 with f1_ f2_ f3_; have f4_ := f1_.symm; have f5_ := f3_.symm; clear f1_ f2_ f3_; subst f4_; subst f5_))
           refine hK.out _ _ ⟨(zaa BK168.out 0).trans rfl, (zaa BK168.out 1).trans rfl, (zaa BK168.out 2).trans rfl, (zaa BK168.out 3).trans rfl, (zaa BK168.out 4).trans rfl, (zaa BK168.out 5).trans rfl, (zaa BK168.out 6).trans rfl, (zaa BK168.out 7).trans rfl⟩ (fun hHeld => ?_)
           clear hK K
           refine norm_ (a' := ?_) ?_ ?_
           rotate_left
           ·
            show Act.put _ (some 35) _ = _
            simp only [Act.put, List.setIfInBounds_toArray, List.set_cons_zero, List.set_cons_succ, i64_w, i32_w]
            rfl
           refine pure_ (i := 18) (N := some 36) (v := ?_) (a' := ?_) #[true, true, true, true, true, true, true, true, true, true, true, true, true, true, true, true, true, true, true, false, false] rfl rfl (zap HT_.out (by kernel_rfl)) (fun _ _ _ h => h) (Or.inl ⟨by rfl, ?_⟩) ?_ ?_
           rotate_left
           ·
            intro w'
            go_simp
            with_reducible rfl
           rotate_left
           ·
            simp only [Act.put, List.setIfInBounds_toArray, List.set_cons_zero, List.set_cons_succ, i64_w, i32_w]
            rfl
           refine one_ (i := 19) (N := some 6) #[true, true, true, true, true, true, true, true, true, true, true, true, true, true, true, true, true, true, true, true, false] rfl rfl (one_of HT_.out (by kernel_rfl)) (by decide) (fun K hK => ?_)
           refine box_step ?hg (N := 6) ?hd (cs := #[.int .i64 0, .string (⟨#[]⟩ : ByteArray), .string (⟨#[]⟩ : ByteArray), .string (⟨#[]⟩ : ByteArray), .slice none 0 0, .int .i64 0, .int .i64 0, .slice none 0 0]) (t := 55) ?hr ?_; (case hd => rfl); (case hg => rfl); (case hr => first | (go_simp; done) | (go_simp; rfl))
           intro gb175 hg w15 hbox hb
           have n0_ := Aside0.mk (Kd.S_below (by (with_reducible repeat (first | apply Kd.S_alloc | apply Kd.S_drewN | apply Kd.S_drew)); exact HO_3.out) hb)
           have n1_ := Aside0.mk (Kd.R_below (by (with_reducible repeat (first | apply Kd.R_alloc | apply Kd.R_drewN | apply Kd.R_drew)); exact HO171.out) hb)
           have n2_ := Aside0.mk (Kd.R_below (by (with_reducible repeat (first | apply Kd.R_alloc | apply Kd.R_drewN | apply Kd.R_drew)); exact HO174.out) hb)
           have n3_ := Aside0.mk (zbc (g := gb168) (o := .cells #[.int .i64 ((zaf l0 x4_1).f3.f0), .string ((zaf l0 x4_1).f3.f1), .string ((zaf l0 x4_1).f3.f2), .string ((zaf l0 x4_1).f3.f3), .slice A167_7 ((zaf l0 x4_1).f3.f4).length c167_7, .int .i64 ((zaf l0 x4_1).f3.f5), .int .i64 ((zaf l0 x4_1).f3.f6), .slice A167_10 ((zaf l0 x4_1).f3.f7).length c167_10] 34 (0, 0)) (by (with_reducible repeat (first | refine zah ?_ _ | refine zai ?_ | refine zag ?_ _)); exact BK168.out) hb)
           have n4_ := Aside0.mk (zan (by repeat (first | (with_reducible first | exact HB.out | apply zae | apply zab | apply zad | refine zaj ?_ GE168.out) | exact HB.out)) hb)
           have n5_ := Aside0.mk (hbox)
           have n6_ := Aside0.mk ((by rw [hg]; exact (zak (by repeat (first | (with_reducible first | exact HB.out | apply zae | apply zab | apply zad | refine zaj ?_ GE168.out) | exact HB.out))) : w.heap.size ≤ gb175))
           have n7_ := Aside0.mk ((by rw [hg]; exact (zak (by repeat (first | (with_reducible first | exact HB.out | apply zae | apply zab | apply zad | refine zaj ?_ GE168.out) | exact HB.out))) : w.heap.size ≤ gb175))
           have n8_ := Aside0.mk ((by rw [hg]; exact Nat.ne_of_lt (blk_lt (g := gb168) (o := .cells #[.int .i64 ((zaf l0 x4_1).f3.f0), .string ((zaf l0 x4_1).f3.f1), .string ((zaf l0 x4_1).f3.f2), .string ((zaf l0 x4_1).f3.f3), .slice A167_7 ((zaf l0 x4_1).f3.f4).length c167_7, .int .i64 ((zaf l0 x4_1).f3.f5), .int .i64 ((zaf l0 x4_1).f3.f6), .slice A167_10 ((zaf l0 x4_1).f3.f7).length c167_10] 34 (0, 0)) (by (with_reducible repeat (first | refine zah ?_ _ | refine zai ?_ | refine zag ?_ _)); exact BK168.out)) : gb168 ≠ gb175))
           have n9_ := Aside0.mk ((by rw [hg]; exact Nat.ne_of_gt (blk_lt (g := gb168) (o := .cells #[.int .i64 ((zaf l0 x4_1).f3.f0), .string ((zaf l0 x4_1).f3.f1), .string ((zaf l0 x4_1).f3.f2), .string ((zaf l0 x4_1).f3.f3), .slice A167_7 ((zaf l0 x4_1).f3.f4).length c167_7, .int .i64 ((zaf l0 x4_1).f3.f5), .int .i64 ((zaf l0 x4_1).f3.f6), .slice A167_10 ((zaf l0 x4_1).f3.f7).length c167_10] 34 (0, 0)) (by (with_reducible repeat (first | refine zah ?_ _ | refine zai ?_ | refine zag ?_ _)); exact BK168.out)) : gb175 ≠ gb168))
           clear HO_3
           clear HO171
           clear HO174
           clear BK168
           clear HB
           have HO_3 := n0_
           have HO171 := n1_
           have HO174 := n2_
           have BK168 := n3_
           have HB := n4_
           have BK175 := n5_
           have GW175 := n6_
           have GE175 := n7_
           have NB168_175 := n8_
           have NB175_168 := n9_
           clear n0_ n1_ n2_ n3_ n4_ n5_ n6_ n7_ n8_ n9_
           clear hb hbox hg
           refine hK.out _ _ ⟨(zaa BK168.out 0).trans rfl, (zaa BK168.out 1).trans rfl, (zaa BK168.out 2).trans rfl, (zaa BK168.out 3).trans rfl, (zaa BK168.out 4).trans rfl, (zaa BK168.out 5).trans rfl, (zaa BK168.out 6).trans rfl, (zaa BK168.out 7).trans rfl⟩ (fun hHeld => ?_)
           clear hK K
           refine norm_ (a' := ?_) ?_ ?_
           rotate_left
           ·
            show Act.put _ (some 6) _ = _
            simp only [Act.put, List.setIfInBounds_toArray, List.set_cons_zero, List.set_cons_succ, i64_w, i32_w]
            rfl
           exact norm_ (by simp only [putAll, Act.put, List.setIfInBounds_toArray, List.set_cons_zero, List.set_cons_succ]) (hCont (.slice Ao14 y169.length co14, .slice Ao13 y172.length co13, gb175) _ ⟨hHeld, (by (with_reducible repeat (first | apply Kd.R_alloc | apply Kd.R_drewN | apply Kd.R_drew)); exact HO171.out), (by (with_reducible repeat (first | apply Kd.R_alloc | apply Kd.R_drewN | apply Kd.R_drew)); exact HO174.out), (by (with_reducible repeat (first | apply Kd.S_alloc | apply Kd.S_drewN | apply Kd.S_drew)); exact Kd.S_mono HO_3.out (fun _ hk => ⟨hk.1.2, hk.2⟩)), (by (with_reducible repeat (first | refine zah ?_ _ | refine zai ?_ | refine zag ?_ _)); exact BK168.out), (by (with_reducible repeat (first | refine zah ?_ _ | refine zai ?_ | refine zag ?_ _)); exact BK175.out), GW175.out, GE175.out, NB168_175.out, NB175_168.out, (by repeat (first | (with_reducible first | exact HB.out | apply zae | apply zab | apply zad | refine zaj ?_ GE168.out | refine zaj ?_ GE175.out) | exact HB.out))⟩)
          ·
           skip
           refine box_step ?hg (N := 6) ?hd (cs := #[.int .i64 0, .string (⟨#[]⟩ : ByteArray), .string (⟨#[]⟩ : ByteArray), .string (⟨#[]⟩ : ByteArray), .slice none 0 0, .int .i64 0, .int .i64 0, .slice none 0 0]) (t := 55) ?hr ?_; (case hd => rfl); (case hg => rfl); (case hr => first | (go_simp; done) | (go_simp; rfl))
           intro gb175 hg w12 hbox hb
           have n0_ := Aside0.mk (Kd.S_below (by (with_reducible repeat (first | apply Kd.S_alloc | apply Kd.S_drewN | apply Kd.S_drew)); exact HO_3.out) hb)
           have n1_ := Aside0.mk (Kd.R_below (by (with_reducible repeat (first | apply Kd.R_alloc | apply Kd.R_drewN | apply Kd.R_drew)); exact HO171.out) hb)
           have n2_ := Aside0.mk (zbc (g := gb168) (o := .cells #[.int .i64 ((zaf l0 x4_1).f3.f0), .string ((zaf l0 x4_1).f3.f1), .string ((zaf l0 x4_1).f3.f2), .string ((zaf l0 x4_1).f3.f3), .slice A167_7 ((zaf l0 x4_1).f3.f4).length c167_7, .int .i64 ((zaf l0 x4_1).f3.f5), .int .i64 ((zaf l0 x4_1).f3.f6), .slice A167_10 ((zaf l0 x4_1).f3.f7).length c167_10] 34 (0, 0)) (by (with_reducible repeat (first | refine zah ?_ _ | refine zai ?_ | refine zag ?_ _)); exact BK168.out) hb)
           have n3_ := Aside0.mk (zan (by repeat (first | (with_reducible first | exact HB.out | apply zae | apply zab | apply zad | refine zaj ?_ GE168.out) | exact HB.out)) hb)
           have n4_ := Aside0.mk (hbox)
           have n5_ := Aside0.mk ((by rw [hg]; exact (zak (by repeat (first | (with_reducible first | exact HB.out | apply zae | apply zab | apply zad | refine zaj ?_ GE168.out) | exact HB.out))) : w.heap.size ≤ gb175))
           have n6_ := Aside0.mk ((by rw [hg]; exact (zak (by repeat (first | (with_reducible first | exact HB.out | apply zae | apply zab | apply zad | refine zaj ?_ GE168.out) | exact HB.out))) : w.heap.size ≤ gb175))
           have n7_ := Aside0.mk ((by rw [hg]; exact Nat.ne_of_lt (blk_lt (g := gb168) (o := .cells #[.int .i64 ((zaf l0 x4_1).f3.f0), .string ((zaf l0 x4_1).f3.f1), .string ((zaf l0 x4_1).f3.f2), .string ((zaf l0 x4_1).f3.f3), .slice A167_7 ((zaf l0 x4_1).f3.f4).length c167_7, .int .i64 ((zaf l0 x4_1).f3.f5), .int .i64 ((zaf l0 x4_1).f3.f6), .slice A167_10 ((zaf l0 x4_1).f3.f7).length c167_10] 34 (0, 0)) (by (with_reducible repeat (first | refine zah ?_ _ | refine zai ?_ | refine zag ?_ _)); exact BK168.out)) : gb168 ≠ gb175))
           have n8_ := Aside0.mk ((by rw [hg]; exact Nat.ne_of_gt (blk_lt (g := gb168) (o := .cells #[.int .i64 ((zaf l0 x4_1).f3.f0), .string ((zaf l0 x4_1).f3.f1), .string ((zaf l0 x4_1).f3.f2), .string ((zaf l0 x4_1).f3.f3), .slice A167_7 ((zaf l0 x4_1).f3.f4).length c167_7, .int .i64 ((zaf l0 x4_1).f3.f5), .int .i64 ((zaf l0 x4_1).f3.f6), .slice A167_10 ((zaf l0 x4_1).f3.f7).length c167_10] 34 (0, 0)) (by (with_reducible repeat (first | refine zah ?_ _ | refine zai ?_ | refine zag ?_ _)); exact BK168.out)) : gb175 ≠ gb168))
           clear HO_3
           clear HO171
           clear BK168
           clear HB
           have HO_3 := n0_
           have HO171 := n1_
           have BK168 := n2_
           have HB := n3_
           have BK175 := n4_
           have GW175 := n5_
           have GE175 := n6_
           have NB168_175 := n7_
           have NB175_168 := n8_
           clear n0_ n1_ n2_ n3_ n4_ n5_ n6_ n7_ n8_
           clear hb hbox hg
           refine hK.out _ _ ⟨(zaa BK168.out 0).trans rfl, (zaa BK168.out 1).trans rfl, (zaa BK168.out 2).trans rfl, (zaa BK168.out 3).trans rfl, (zaa BK168.out 4).trans rfl, (zaa BK168.out 5).trans rfl, (zaa BK168.out 6).trans rfl, (zaa BK168.out 7).trans rfl⟩ (fun hHeld => ?_)
           clear hK K
           refine norm_ (a' := ?_) ?_ ?_
           rotate_left
           ·
            show Act.put _ (some 6) _ = _
            simp only [Act.put, List.setIfInBounds_toArray, List.set_cons_zero, List.set_cons_succ, i64_w, i32_w]
            rfl
           refine one_ (i := 17) (N := some 35) #[true, true, true, true, true, true, true, true, true, true, true, true, true, true, true, true, true, true, false, true, false] rfl rfl (one_of HT_.out (by kernel_rfl)) (by decide) (fun K hK => ?_)
           refine Kd.R_append_rows_step (Kd.int .i64) (w0 := w) w.heap.size (by rfl) (.const (.slice none 0 0)) (.tmp 34) 32 3 (.int .i64 0) 8 rfl Tryd.underlying32 info3 rfl (by decide) (by omega) (.slice none 0 0) ([] : List Int) ((zaf l0 x4_1).f3.f7) _ _ _ (fun _ => True) (fun _ => False) rfl rfl ?aO ?aR (fun _ _ h => h) (fun _ h => h.elim) ?aF ?aB ?aS ?aL ?_
           (case aR => repeat (first | exact (Kd.C_below HR167_10.out HB.out) | (with_reducible refine Kd.C_alloc ?_ _) | (with_reducible refine Kd.C_drewN ?_ _) | (with_reducible refine Kd.C_drew ?_)))
           (case aB => exact (by repeat (first | (with_reducible first | exact HB.out | apply zae | apply zab | apply zad | refine zaj ?_ GE168.out | refine zaj ?_ GE175.out) | exact HB.out)))
           (case aF => exact (fun _ _ => trivial))
           (case aO => exact ((Kd.R_nil _ _ _ _ (fun _ => True))))
           (case aS => exact (zak (by repeat (first | (with_reducible first | exact HB.out | apply zae | apply zab | apply zad | refine zaj ?_ GE168.out | refine zaj ?_ GE175.out) | exact HB.out))))
           (case aL => have := LMc5.out; omega)
           intro v173 w13 ho hb hg hat
           rw [← Ny172.out] at ho
           have n0_ := Aside0.mk (Kd.S_after (Kd.S_apart_nil (by (with_reducible repeat (first | apply Kd.S_alloc | apply Kd.S_drewN | apply Kd.S_drew)); exact HO_3.out)) hg hat)
           have n1_ := Aside0.mk (zbj (g := gb168) (o := .cells #[.int .i64 ((zaf l0 x4_1).f3.f0), .string ((zaf l0 x4_1).f3.f1), .string ((zaf l0 x4_1).f3.f2), .string ((zaf l0 x4_1).f3.f3), .slice A167_7 ((zaf l0 x4_1).f3.f4).length c167_7, .int .i64 ((zaf l0 x4_1).f3.f5), .int .i64 ((zaf l0 x4_1).f3.f6), .slice A167_10 ((zaf l0 x4_1).f3.f7).length c167_10] 34 (0, 0)) (by (with_reducible repeat (first | refine zah ?_ _ | refine zai ?_ | refine zag ?_ _)); exact BK168.out) hg (by simp [Value.ownBlock]))
           have n2_ := Aside0.mk (Kd.R_grown (by (with_reducible repeat (first | apply Kd.R_alloc | apply Kd.R_drewN | apply Kd.R_drew)); exact HO171.out) hg (fun _ _ => by simp [Value.ownBlock]))
           have n3_ := Aside0.mk (zbj (g := gb175) (o := .cells #[.int .i64 0, .string (⟨#[]⟩ : ByteArray), .string (⟨#[]⟩ : ByteArray), .string (⟨#[]⟩ : ByteArray), .slice none 0 0, .int .i64 0, .int .i64 0, .slice none 0 0] 55 (0, 0)) (by (with_reducible repeat (first | refine zah ?_ _ | refine zai ?_ | refine zag ?_ _)); exact BK175.out) hg (by simp [Value.ownBlock]))
           have n4_ := Aside0.mk (hb)
           have n5_ := Aside0.mk (ho)
           clear HO_3
           clear BK168
           clear HO171
           clear BK175
           clear HB
           have HO_3 := n0_
           have BK168 := n1_
           have HO171 := n2_
           have BK175 := n3_
           have HB := n4_
           have HO174 := n5_
           clear n0_ n1_ n2_ n3_ n4_ n5_
           clear ho hb hg hat
           obtain ⟨Ao14, co14, eo14⟩ := Kd.R_slice HO174.out
           (first | subst eo14 | (injection eo14 with f1_ f2_ f3_; have f4_ := f1_.symm; have f5_ := f3_.symm; clear f1_ f2_ f3_; subst f4_; subst f5_))
           obtain ⟨Ao15, co15, eo15⟩ := Kd.R_slice HO171.out
           (first | subst eo15 | (injection eo15 with f1_ f2_ f3_; have f4_ := f1_.symm; have f5_ := f3_.symm; clear f1_ f2_ f3_; subst f4_; subst f5_))
           refine hK.out _ _ ⟨(zaa BK168.out 0).trans rfl, (zaa BK168.out 1).trans rfl, (zaa BK168.out 2).trans rfl, (zaa BK168.out 3).trans rfl, (zaa BK168.out 4).trans rfl, (zaa BK168.out 5).trans rfl, (zaa BK168.out 6).trans rfl, (zaa BK168.out 7).trans rfl⟩ (fun hHeld => ?_)
           clear hK K
           refine norm_ (a' := ?_) ?_ ?_
           rotate_left
           ·
            show Act.put _ (some 35) _ = _
            simp only [Act.put, List.setIfInBounds_toArray, List.set_cons_zero, List.set_cons_succ, i64_w, i32_w]
            rfl
           refine pure_ (i := 18) (N := some 36) (v := ?_) (a' := ?_) #[true, true, true, true, true, true, true, true, true, true, true, true, true, true, true, true, true, true, true, true, false] rfl rfl (zap HT_.out (by kernel_rfl)) (fun _ _ _ h => h) (Or.inl ⟨by rfl, ?_⟩) ?_ ?_
           rotate_left
           ·
            intro w'
            go_simp
            with_reducible rfl
           rotate_left
           ·
            simp only [Act.put, List.setIfInBounds_toArray, List.set_cons_zero, List.set_cons_succ, i64_w, i32_w]
            rfl
           exact norm_ (by simp only [putAll, Act.put, List.setIfInBounds_toArray, List.set_cons_zero, List.set_cons_succ]) (hCont (.slice Ao15 y169.length co15, .slice Ao14 y172.length co14, gb175) _ ⟨hHeld, (by (with_reducible repeat (first | apply Kd.R_alloc | apply Kd.R_drewN | apply Kd.R_drew)); exact HO171.out), (by (with_reducible repeat (first | apply Kd.R_alloc | apply Kd.R_drewN | apply Kd.R_drew)); exact HO174.out), (by (with_reducible repeat (first | apply Kd.S_alloc | apply Kd.S_drewN | apply Kd.S_drew)); exact Kd.S_mono HO_3.out (fun _ hk => ⟨hk.1.2, hk.2⟩)), (by (with_reducible repeat (first | refine zah ?_ _ | refine zai ?_ | refine zag ?_ _)); exact BK168.out), (by (with_reducible repeat (first | refine zah ?_ _ | refine zai ?_ | refine zag ?_ _)); exact BK175.out), GW175.out, GE175.out, NB168_175.out, NB175_168.out, (by repeat (first | (with_reducible first | exact HB.out | apply zae | apply zab | apply zad | refine zaj ?_ GE168.out | refine zaj ?_ GE175.out) | exact HB.out))⟩)
         ·
          skip
          refine box_step ?hg (N := 6) ?hd (cs := #[.int .i64 0, .string (⟨#[]⟩ : ByteArray), .string (⟨#[]⟩ : ByteArray), .string (⟨#[]⟩ : ByteArray), .slice none 0 0, .int .i64 0, .int .i64 0, .slice none 0 0]) (t := 55) ?hr ?_; (case hd => rfl); (case hg => rfl); (case hr => first | (go_simp; done) | (go_simp; rfl))
          intro gb175 hg w11 hbox hb
          have n0_ := Aside0.mk (Kd.S_below (by (with_reducible repeat (first | apply Kd.S_alloc | apply Kd.S_drewN | apply Kd.S_drew)); exact HO_3.out) hb)
          have n1_ := Aside0.mk (zbc (g := gb168) (o := .cells #[.int .i64 ((zaf l0 x4_1).f3.f0), .string ((zaf l0 x4_1).f3.f1), .string ((zaf l0 x4_1).f3.f2), .string ((zaf l0 x4_1).f3.f3), .slice A167_7 ((zaf l0 x4_1).f3.f4).length c167_7, .int .i64 ((zaf l0 x4_1).f3.f5), .int .i64 ((zaf l0 x4_1).f3.f6), .slice A167_10 ((zaf l0 x4_1).f3.f7).length c167_10] 34 (0, 0)) (by (with_reducible repeat (first | refine zah ?_ _ | refine zai ?_ | refine zag ?_ _)); exact BK168.out) hb)
          have n2_ := Aside0.mk (zan (by repeat (first | (with_reducible first | exact HB.out | apply zae | apply zab | apply zad | refine zaj ?_ GE168.out) | exact HB.out)) hb)
          have n3_ := Aside0.mk (hbox)
          have n4_ := Aside0.mk ((by rw [hg]; exact (zak (by repeat (first | (with_reducible first | exact HB.out | apply zae | apply zab | apply zad | refine zaj ?_ GE168.out) | exact HB.out))) : w.heap.size ≤ gb175))
          have n5_ := Aside0.mk ((by rw [hg]; exact (zak (by repeat (first | (with_reducible first | exact HB.out | apply zae | apply zab | apply zad | refine zaj ?_ GE168.out) | exact HB.out))) : w.heap.size ≤ gb175))
          have n6_ := Aside0.mk ((by rw [hg]; exact Nat.ne_of_lt (blk_lt (g := gb168) (o := .cells #[.int .i64 ((zaf l0 x4_1).f3.f0), .string ((zaf l0 x4_1).f3.f1), .string ((zaf l0 x4_1).f3.f2), .string ((zaf l0 x4_1).f3.f3), .slice A167_7 ((zaf l0 x4_1).f3.f4).length c167_7, .int .i64 ((zaf l0 x4_1).f3.f5), .int .i64 ((zaf l0 x4_1).f3.f6), .slice A167_10 ((zaf l0 x4_1).f3.f7).length c167_10] 34 (0, 0)) (by (with_reducible repeat (first | refine zah ?_ _ | refine zai ?_ | refine zag ?_ _)); exact BK168.out)) : gb168 ≠ gb175))
          have n7_ := Aside0.mk ((by rw [hg]; exact Nat.ne_of_gt (blk_lt (g := gb168) (o := .cells #[.int .i64 ((zaf l0 x4_1).f3.f0), .string ((zaf l0 x4_1).f3.f1), .string ((zaf l0 x4_1).f3.f2), .string ((zaf l0 x4_1).f3.f3), .slice A167_7 ((zaf l0 x4_1).f3.f4).length c167_7, .int .i64 ((zaf l0 x4_1).f3.f5), .int .i64 ((zaf l0 x4_1).f3.f6), .slice A167_10 ((zaf l0 x4_1).f3.f7).length c167_10] 34 (0, 0)) (by (with_reducible repeat (first | refine zah ?_ _ | refine zai ?_ | refine zag ?_ _)); exact BK168.out)) : gb175 ≠ gb168))
          clear HO_3
          clear BK168
          clear HB
          have HO_3 := n0_
          have BK168 := n1_
          have HB := n2_
          have BK175 := n3_
          have GW175 := n4_
          have GE175 := n5_
          have NB168_175 := n6_
          have NB175_168 := n7_
          clear n0_ n1_ n2_ n3_ n4_ n5_ n6_ n7_
          clear hb hbox hg
          refine hK.out _ _ ⟨(zaa BK168.out 0).trans rfl, (zaa BK168.out 1).trans rfl, (zaa BK168.out 2).trans rfl, (zaa BK168.out 3).trans rfl, (zaa BK168.out 4).trans rfl, (zaa BK168.out 5).trans rfl, (zaa BK168.out 6).trans rfl, (zaa BK168.out 7).trans rfl⟩ (fun hHeld => ?_)
          clear hK K
          refine norm_ (a' := ?_) ?_ ?_
          rotate_left
          ·
           show Act.put _ (some 6) _ = _
           simp only [Act.put, List.setIfInBounds_toArray, List.set_cons_zero, List.set_cons_succ, i64_w, i32_w]
           rfl
          refine one_ (i := 10) (N := some 28) #[true, true, true, true, true, true, true, true, true, true, true, true, true, true, true, true, true, false, false, true, false] rfl rfl (one_of HT_.out (by kernel_rfl)) (by decide) (fun K hK => ?_)
          refine Kd.R_append_rows_step k38 (w0 := w) w.heap.size (by rfl) (.const (.slice none 0 0)) (.tmp 27) 31 38 (.agg #[(.string ⟨#[]⟩), (.string ⟨#[]⟩)]) 32 rfl Tryd.underlying31 info38 rfl (by decide) (by omega) (.slice none 0 0) ([] : List (S38)) ((zaf l0 x4_1).f3.f4) _ _ _ (fun _ => True) (fun _ => False) rfl rfl ?aO ?aR (fun _ _ h => h) (fun _ h => h.elim) ?aF ?aB ?aS ?aL ?_
          (case aR => repeat (first | exact (Kd.C_below HR167_7.out HB.out) | (with_reducible refine Kd.C_alloc ?_ _) | (with_reducible refine Kd.C_drewN ?_ _) | (with_reducible refine Kd.C_drew ?_)))
          (case aB => exact (by repeat (first | (with_reducible first | exact HB.out | apply zae | apply zab | apply zad | refine zaj ?_ GE168.out | refine zaj ?_ GE175.out) | exact HB.out)))
          (case aF => exact (fun _ _ => trivial))
          (case aO => exact ((Kd.R_nil _ _ _ _ (fun _ => True))))
          (case aS => exact (zak (by repeat (first | (with_reducible first | exact HB.out | apply zae | apply zab | apply zad | refine zaj ?_ GE168.out | refine zaj ?_ GE175.out) | exact HB.out))))
          (case aL => have := LMc4.out; omega)
          intro v170 w12 ho hb hg hat
          rw [← Ny169.out] at ho
          have n0_ := Aside0.mk (Kd.S_after (Kd.S_apart_nil (by (with_reducible repeat (first | apply Kd.S_alloc | apply Kd.S_drewN | apply Kd.S_drew)); exact HO_3.out)) hg hat)
          have n1_ := Aside0.mk (zbj (g := gb168) (o := .cells #[.int .i64 ((zaf l0 x4_1).f3.f0), .string ((zaf l0 x4_1).f3.f1), .string ((zaf l0 x4_1).f3.f2), .string ((zaf l0 x4_1).f3.f3), .slice A167_7 ((zaf l0 x4_1).f3.f4).length c167_7, .int .i64 ((zaf l0 x4_1).f3.f5), .int .i64 ((zaf l0 x4_1).f3.f6), .slice A167_10 ((zaf l0 x4_1).f3.f7).length c167_10] 34 (0, 0)) (by (with_reducible repeat (first | refine zah ?_ _ | refine zai ?_ | refine zag ?_ _)); exact BK168.out) hg (by simp [Value.ownBlock]))
          have n2_ := Aside0.mk (zbj (g := gb175) (o := .cells #[.int .i64 0, .string (⟨#[]⟩ : ByteArray), .string (⟨#[]⟩ : ByteArray), .string (⟨#[]⟩ : ByteArray), .slice none 0 0, .int .i64 0, .int .i64 0, .slice none 0 0] 55 (0, 0)) (by (with_reducible repeat (first | refine zah ?_ _ | refine zai ?_ | refine zag ?_ _)); exact BK175.out) hg (by simp [Value.ownBlock]))
          have n3_ := Aside0.mk (hb)
          have n4_ := Aside0.mk (ho)
          clear HO_3
          clear BK168
          clear BK175
          clear HB
          have HO_3 := n0_
          have BK168 := n1_
          have BK175 := n2_
          have HB := n3_
          have HO171 := n4_
          clear n0_ n1_ n2_ n3_ n4_
          clear ho hb hg hat
          refine hK.out _ _ ⟨(zaa BK168.out 0).trans rfl, (zaa BK168.out 1).trans rfl, (zaa BK168.out 2).trans rfl, (zaa BK168.out 3).trans rfl, (zaa BK168.out 4).trans rfl, (zaa BK168.out 5).trans rfl, (zaa BK168.out 6).trans rfl, (zaa BK168.out 7).trans rfl⟩ (fun hHeld => ?_)
          clear hK K
          refine norm_ (a' := ?_) ?_ ?_
          rotate_left
          ·
           show Act.put _ (some 28) _ = _
           simp only [Act.put, List.setIfInBounds_toArray, List.set_cons_zero, List.set_cons_succ, i64_w, i32_w]
           rfl
          refine one_ (i := 17) (N := some 35) #[true, true, true, true, true, true, true, true, true, true, true, true, true, true, true, true, true, true, false, true, false] rfl rfl (one_of HT_.out (by kernel_rfl)) (by decide) (fun K hK => ?_)
          refine Kd.R_append_rows_step (Kd.int .i64) (w0 := w) w.heap.size (by rfl) (.const (.slice none 0 0)) (.tmp 34) 32 3 (.int .i64 0) 8 rfl Tryd.underlying32 info3 rfl (by decide) (by omega) (.slice none 0 0) ([] : List Int) ((zaf l0 x4_1).f3.f7) _ _ _ (fun _ => True) (fun _ => False) rfl rfl ?aO ?aR (fun _ _ h => h) (fun _ h => h.elim) ?aF ?aB ?aS ?aL ?_
          (case aR => repeat (first | exact (Kd.C_below HR167_10.out HB.out) | (with_reducible refine Kd.C_alloc ?_ _) | (with_reducible refine Kd.C_drewN ?_ _) | (with_reducible refine Kd.C_drew ?_)))
          (case aB => exact (by repeat (first | (with_reducible first | exact HB.out | apply zae | apply zab | apply zad | refine zaj ?_ GE168.out | refine zaj ?_ GE175.out) | exact HB.out)))
          (case aF => exact (fun _ _ => trivial))
          (case aO => exact ((Kd.R_nil _ _ _ _ (fun _ => True))))
          (case aS => exact (zak (by repeat (first | (with_reducible first | exact HB.out | apply zae | apply zab | apply zad | refine zaj ?_ GE168.out | refine zaj ?_ GE175.out) | exact HB.out))))
          (case aL => have := LMc5.out; omega)
          intro v173 w13 ho hb hg hat
          rw [← Ny172.out] at ho
          have n0_ := Aside0.mk (Kd.S_after (Kd.S_apart_nil (by (with_reducible repeat (first | apply Kd.S_alloc | apply Kd.S_drewN | apply Kd.S_drew)); exact HO_3.out)) hg hat)
          have n1_ := Aside0.mk (zbj (g := gb168) (o := .cells #[.int .i64 ((zaf l0 x4_1).f3.f0), .string ((zaf l0 x4_1).f3.f1), .string ((zaf l0 x4_1).f3.f2), .string ((zaf l0 x4_1).f3.f3), .slice A167_7 ((zaf l0 x4_1).f3.f4).length c167_7, .int .i64 ((zaf l0 x4_1).f3.f5), .int .i64 ((zaf l0 x4_1).f3.f6), .slice A167_10 ((zaf l0 x4_1).f3.f7).length c167_10] 34 (0, 0)) (by (with_reducible repeat (first | refine zah ?_ _ | refine zai ?_ | refine zag ?_ _)); exact BK168.out) hg (by simp [Value.ownBlock]))
          have n2_ := Aside0.mk (zbj (g := gb175) (o := .cells #[.int .i64 0, .string (⟨#[]⟩ : ByteArray), .string (⟨#[]⟩ : ByteArray), .string (⟨#[]⟩ : ByteArray), .slice none 0 0, .int .i64 0, .int .i64 0, .slice none 0 0] 55 (0, 0)) (by (with_reducible repeat (first | refine zah ?_ _ | refine zai ?_ | refine zag ?_ _)); exact BK175.out) hg (by simp [Value.ownBlock]))
          have n3_ := Aside0.mk (Kd.R_grown (by (with_reducible repeat (first | apply Kd.R_alloc | apply Kd.R_drewN | apply Kd.R_drew)); exact HO171.out) hg (fun _ _ => by simp [Value.ownBlock]))
          have n4_ := Aside0.mk (hb)
          have n5_ := Aside0.mk (ho)
          clear HO_3
          clear BK168
          clear BK175
          clear HO171
          clear HB
          have HO_3 := n0_
          have BK168 := n1_
          have BK175 := n2_
          have HO171 := n3_
          have HB := n4_
          have HO174 := n5_
          clear n0_ n1_ n2_ n3_ n4_ n5_
          clear ho hb hg hat
          obtain ⟨Ao14, co14, eo14⟩ := Kd.R_slice HO174.out
          (first | subst eo14 | (injection eo14 with f1_ f2_ f3_; have f4_ := f1_.symm; have f5_ := f3_.symm; clear f1_ f2_ f3_; subst f4_; subst f5_))
          obtain ⟨Ao15, co15, eo15⟩ := Kd.R_slice HO171.out
          (first | subst eo15 | (injection eo15 with f1_ f2_ f3_; have f4_ := f1_.symm; have f5_ := f3_.symm; clear f1_ f2_ f3_; subst f4_; subst f5_))
          refine hK.out _ _ ⟨(zaa BK168.out 0).trans rfl, (zaa BK168.out 1).trans rfl, (zaa BK168.out 2).trans rfl, (zaa BK168.out 3).trans rfl, (zaa BK168.out 4).trans rfl, (zaa BK168.out 5).trans rfl, (zaa BK168.out 6).trans rfl, (zaa BK168.out 7).trans rfl⟩ (fun hHeld => ?_)
          clear hK K
          refine norm_ (a' := ?_) ?_ ?_
          rotate_left
          ·
           show Act.put _ (some 35) _ = _
           simp only [Act.put, List.setIfInBounds_toArray, List.set_cons_zero, List.set_cons_succ, i64_w, i32_w]
           rfl
          refine pure_ (i := 18) (N := some 36) (v := ?_) (a' := ?_) #[true, true, true, true, true, true, true, true, true, true, true, true, true, true, true, true, true, true, true, true, false] rfl rfl (zap HT_.out (by kernel_rfl)) (fun _ _ _ h => h) (Or.inl ⟨by rfl, ?_⟩) ?_ ?_
          rotate_left
          ·
           intro w'
           go_simp
           with_reducible rfl
          rotate_left
          ·
           simp only [Act.put, List.setIfInBounds_toArray, List.set_cons_zero, List.set_cons_succ, i64_w, i32_w]
           rfl
          exact norm_ (by simp only [putAll, Act.put, List.setIfInBounds_toArray, List.set_cons_zero, List.set_cons_succ]) (hCont (.slice Ao15 y169.length co15, .slice Ao14 y172.length co14, gb175) _ ⟨hHeld, (by (with_reducible repeat (first | apply Kd.R_alloc | apply Kd.R_drewN | apply Kd.R_drew)); exact HO171.out), (by (with_reducible repeat (first | apply Kd.R_alloc | apply Kd.R_drewN | apply Kd.R_drew)); exact HO174.out), (by (with_reducible repeat (first | apply Kd.S_alloc | apply Kd.S_drewN | apply Kd.S_drew)); exact Kd.S_mono HO_3.out (fun _ hk => ⟨hk.1.2, hk.2⟩)), (by (with_reducible repeat (first | refine zah ?_ _ | refine zai ?_ | refine zag ?_ _)); exact BK168.out), (by (with_reducible repeat (first | refine zah ?_ _ | refine zai ?_ | refine zag ?_ _)); exact BK175.out), GW175.out, GE175.out, NB168_175.out, NB175_168.out, (by repeat (first | (with_reducible first | exact HB.out | apply zae | apply zab | apply zad | refine zaj ?_ GE168.out | refine zaj ?_ GE175.out) | exact HB.out))⟩)
        rintro ⟨v170, v173, gb175⟩ w16 ⟨hS_, h0_, h1_, h2_, h3_, h4_, h5_, h6_, h7_, h8_, h9_⟩
        have n0_ : Aside0 (Kd.R k38 38 w16 w.heap.size (fun _ => True) v170 y169) := ⟨h0_⟩
        have n1_ : Aside0 (Kd.R (Kd.int .i64) 3 w16 w.heap.size (fun _ => True) v173 y172) := ⟨h1_⟩
        have n2_ : Aside0 (Kd.S k57 57 w16 w.heap.size (fun k_ => some k_ ≠ (v170 : Value).ownBlock ∧ some k_ ≠ (v173 : Value).ownBlock) u3 x3_1) := ⟨h2_⟩
        have n3_ : Aside0 (w16.heap[gb168]? = some (.cells #[.int .i64 ((zaf l0 x4_1).f3.f0), .string ((zaf l0 x4_1).f3.f1), .string ((zaf l0 x4_1).f3.f2), .string ((zaf l0 x4_1).f3.f3), .slice A167_7 ((zaf l0 x4_1).f3.f4).length c167_7, .int .i64 ((zaf l0 x4_1).f3.f5), .int .i64 ((zaf l0 x4_1).f3.f6), .slice A167_10 ((zaf l0 x4_1).f3.f7).length c167_10] 34 (0, 0))) := ⟨h3_⟩
        have n4_ : Aside0 (w16.heap[gb175]? = some (.cells #[.int .i64 0, .string (⟨#[]⟩ : ByteArray), .string (⟨#[]⟩ : ByteArray), .string (⟨#[]⟩ : ByteArray), .slice none 0 0, .int .i64 0, .int .i64 0, .slice none 0 0] 55 (0, 0))) := ⟨h4_⟩
        have n5_ : Aside0 (w.heap.size ≤ gb175) := ⟨h5_⟩
        have n6_ : Aside0 (w.heap.size ≤ gb175) := ⟨h6_⟩
        have n7_ : Aside0 (gb168 ≠ gb175) := ⟨h7_⟩
        have n8_ : Aside0 (gb175 ≠ gb168) := ⟨h8_⟩
        have n9_ : Aside0 (Below w.heap.size w w16) := ⟨h9_⟩
        clear HO_3
        clear BK168
        clear HB
        clear h0_ h1_ h2_ h3_ h4_ h5_ h6_ h7_ h8_ h9_
        have HO171 := n0_
        have HO174 := n1_
        have HO_3 := n2_
        have BK168 := n3_
        have BK175 := n4_
        have GW175 := n5_
        have GE175 := n6_
        have NB168_175 := n7_
        have NB175_168 := n8_
        have HB := n9_
        clear n0_ n1_ n2_ n3_ n4_ n5_ n6_ n7_ n8_ n9_
        have hHeld : w16.cell? ⟨gb168, 0, none⟩ = some (.int .i64 ((zaf l0 x4_1).f3.f0)) ∧ w16.cell? ⟨gb168, 1, none⟩ = some (.string ((zaf l0 x4_1).f3.f1)) ∧ w16.cell? ⟨gb168, 2, none⟩ = some (.string ((zaf l0 x4_1).f3.f2)) ∧ w16.cell? ⟨gb168, 3, none⟩ = some (.string ((zaf l0 x4_1).f3.f3)) ∧ w16.cell? ⟨gb168, 4, none⟩ = some (.slice A167_7 ((zaf l0 x4_1).f3.f4).length c167_7) ∧ w16.cell? ⟨gb168, 5, none⟩ = some (.int .i64 ((zaf l0 x4_1).f3.f5)) ∧ w16.cell? ⟨gb168, 6, none⟩ = some (.int .i64 ((zaf l0 x4_1).f3.f6)) ∧ w16.cell? ⟨gb168, 7, none⟩ = some (.slice A167_10 ((zaf l0 x4_1).f3.f7).length c167_10) := hS_
        obtain ⟨Ao17, co17, eo17⟩ := Kd.R_slice HO174.out
        (first | subst eo17 | (injection eo17 with f1_ f2_ f3_; have f4_ := f1_.symm; have f5_ := f3_.symm; clear f1_ f2_ f3_; subst f4_; subst f5_))
        obtain ⟨Ao18, co18, eo18⟩ := Kd.R_slice HO171.out
        (first | subst eo18 | (injection eo18 with f1_ f2_ f3_; have f4_ := f1_.symm; have f5_ := f3_.symm; clear f1_ f2_ f3_; subst f4_; subst f5_))
        refine norm_ (a' := ?_) ?_ ?_
        rotate_left
        ·
         simp only [putAll, Act.put, List.setIfInBounds_toArray, List.set_cons_zero, List.set_cons_succ]
         rfl
        refine one_ (i := 20) (N := none) #[true, true, true, true, true, true, true, true, true, true, true, true, true, true, true, true, true, true, true, true, true] rfl rfl (one_of HT_.out (by kernel_rfl)) (by decide) (fun K hK => ?_)
        have hs19 : w16.cell? ⟨gb175, 0, none⟩ = some (.int .i64 0) := (zaa BK175.out 0).trans rfl
        have hfs19 := zac BK175.out 0
        have hns19_0 := NB168_175.out
        have hms19_0 := NB175_168.out
        have hs20 : w16.cell? ⟨gb175, 1, none⟩ = some (.string (⟨#[]⟩ : ByteArray)) := (zaa BK175.out 1).trans rfl
        have hfs20 := zac BK175.out 1
        have hns20_0 := NB168_175.out
        have hms20_0 := NB175_168.out
        have hs21 : w16.cell? ⟨gb175, 2, none⟩ = some (.string (⟨#[]⟩ : ByteArray)) := (zaa BK175.out 2).trans rfl
        have hfs21 := zac BK175.out 2
        have hns21_0 := NB168_175.out
        have hms21_0 := NB175_168.out
        have hs22 : w16.cell? ⟨gb175, 3, none⟩ = some (.string (⟨#[]⟩ : ByteArray)) := (zaa BK175.out 3).trans rfl
        have hfs22 := zac BK175.out 3
        have hns22_0 := NB168_175.out
        have hms22_0 := NB175_168.out
        have hs23 : w16.cell? ⟨gb175, 4, none⟩ = some (.slice none 0 0) := (zaa BK175.out 4).trans rfl
        have hfs23 := zac BK175.out 4
        have hns23_0 := NB168_175.out
        have hms23_0 := NB175_168.out
        have hs24 : w16.cell? ⟨gb175, 5, none⟩ = some (.int .i64 0) := (zaa BK175.out 5).trans rfl
        have hfs24 := zac BK175.out 5
        have hns24_0 := NB168_175.out
        have hms24_0 := NB175_168.out
        have hs25 : w16.cell? ⟨gb175, 6, none⟩ = some (.int .i64 0) := (zaa BK175.out 6).trans rfl
        have hfs25 := zac BK175.out 6
        have hns25_0 := NB168_175.out
        have hms25_0 := NB175_168.out
        have hs26 : w16.cell? ⟨gb175, 7, none⟩ = some (.slice none 0 0) := (zaa BK175.out 7).trans rfl
        have hfs26 := zac BK175.out 7
        have hns26_0 := NB168_175.out
        have hms26_0 := NB175_168.out
        refine skip_ (w1 := ?_) (by rfl) rfl ?_ ?_
        rotate_left
        ·
         go_simp
         rfl
        refine hK.out _ _ ⟨((zaq (p := ⟨gb175, _, none⟩) NB168_175.out _).trans (((zaq (p := ⟨gb175, _, none⟩) NB168_175.out _).trans (((zaq (p := ⟨gb175, _, none⟩) NB168_175.out _).trans (((zaq (p := ⟨gb175, _, none⟩) NB168_175.out _).trans (((zaq (p := ⟨gb175, _, none⟩) NB168_175.out _).trans (((zaq (p := ⟨gb175, _, none⟩) NB168_175.out _).trans (((zaq (p := ⟨gb175, _, none⟩) NB168_175.out _).trans (((zaq (p := ⟨gb175, _, none⟩) NB168_175.out _).trans (hHeld.1)))))))))))))))), ((zaq (p := ⟨gb175, _, none⟩) NB168_175.out _).trans (((zaq (p := ⟨gb175, _, none⟩) NB168_175.out _).trans (((zaq (p := ⟨gb175, _, none⟩) NB168_175.out _).trans (((zaq (p := ⟨gb175, _, none⟩) NB168_175.out _).trans (((zaq (p := ⟨gb175, _, none⟩) NB168_175.out _).trans (((zaq (p := ⟨gb175, _, none⟩) NB168_175.out _).trans (((zaq (p := ⟨gb175, _, none⟩) NB168_175.out _).trans (((zaq (p := ⟨gb175, _, none⟩) NB168_175.out _).trans (hHeld.2.1)))))))))))))))), ((zaq (p := ⟨gb175, _, none⟩) NB168_175.out _).trans (((zaq (p := ⟨gb175, _, none⟩) NB168_175.out _).trans (((zaq (p := ⟨gb175, _, none⟩) NB168_175.out _).trans (((zaq (p := ⟨gb175, _, none⟩) NB168_175.out _).trans (((zaq (p := ⟨gb175, _, none⟩) NB168_175.out _).trans (((zaq (p := ⟨gb175, _, none⟩) NB168_175.out _).trans (((zaq (p := ⟨gb175, _, none⟩) NB168_175.out _).trans (((zaq (p := ⟨gb175, _, none⟩) NB168_175.out _).trans (hHeld.2.2.1)))))))))))))))), ((zaq (p := ⟨gb175, _, none⟩) NB168_175.out _).trans (((zaq (p := ⟨gb175, _, none⟩) NB168_175.out _).trans (((zaq (p := ⟨gb175, _, none⟩) NB168_175.out _).trans (((zaq (p := ⟨gb175, _, none⟩) NB168_175.out _).trans (((zaq (p := ⟨gb175, _, none⟩) NB168_175.out _).trans (((zaq (p := ⟨gb175, _, none⟩) NB168_175.out _).trans (((zaq (p := ⟨gb175, _, none⟩) NB168_175.out _).trans (((zaq (p := ⟨gb175, _, none⟩) NB168_175.out _).trans (hHeld.2.2.2.1)))))))))))))))), ((zaq (p := ⟨gb175, _, none⟩) NB168_175.out _).trans (((zaq (p := ⟨gb175, _, none⟩) NB168_175.out _).trans (((zaq (p := ⟨gb175, _, none⟩) NB168_175.out _).trans (((zaq (p := ⟨gb175, _, none⟩) NB168_175.out _).trans (((zaq (p := ⟨gb175, _, none⟩) NB168_175.out _).trans (((zaq (p := ⟨gb175, _, none⟩) NB168_175.out _).trans (((zaq (p := ⟨gb175, _, none⟩) NB168_175.out _).trans (((zaq (p := ⟨gb175, _, none⟩) NB168_175.out _).trans (hHeld.2.2.2.2.1)))))))))))))))), ((zaq (p := ⟨gb175, _, none⟩) NB168_175.out _).trans (((zaq (p := ⟨gb175, _, none⟩) NB168_175.out _).trans (((zaq (p := ⟨gb175, _, none⟩) NB168_175.out _).trans (((zaq (p := ⟨gb175, _, none⟩) NB168_175.out _).trans (((zaq (p := ⟨gb175, _, none⟩) NB168_175.out _).trans (((zaq (p := ⟨gb175, _, none⟩) NB168_175.out _).trans (((zaq (p := ⟨gb175, _, none⟩) NB168_175.out _).trans (((zaq (p := ⟨gb175, _, none⟩) NB168_175.out _).trans (hHeld.2.2.2.2.2.1)))))))))))))))), ((zaq (p := ⟨gb175, _, none⟩) NB168_175.out _).trans (((zaq (p := ⟨gb175, _, none⟩) NB168_175.out _).trans (((zaq (p := ⟨gb175, _, none⟩) NB168_175.out _).trans (((zaq (p := ⟨gb175, _, none⟩) NB168_175.out _).trans (((zaq (p := ⟨gb175, _, none⟩) NB168_175.out _).trans (((zaq (p := ⟨gb175, _, none⟩) NB168_175.out _).trans (((zaq (p := ⟨gb175, _, none⟩) NB168_175.out _).trans (((zaq (p := ⟨gb175, _, none⟩) NB168_175.out _).trans (hHeld.2.2.2.2.2.2.1)))))))))))))))), ((zaq (p := ⟨gb175, _, none⟩) NB168_175.out _).trans (((zaq (p := ⟨gb175, _, none⟩) NB168_175.out _).trans (((zaq (p := ⟨gb175, _, none⟩) NB168_175.out _).trans (((zaq (p := ⟨gb175, _, none⟩) NB168_175.out _).trans (((zaq (p := ⟨gb175, _, none⟩) NB168_175.out _).trans (((zaq (p := ⟨gb175, _, none⟩) NB168_175.out _).trans (((zaq (p := ⟨gb175, _, none⟩) NB168_175.out _).trans (((zaq (p := ⟨gb175, _, none⟩) NB168_175.out _).trans (hHeld.2.2.2.2.2.2.2))))))))))))))))⟩ (fun hHeld => ?_)
        clear hK K
        refine done_ (done_of HT_.out (by kernel_rfl)) ?_
        try go_wp2
        have n0_ : Aside0 (Kd.S k57 57 ((((((((w16.setCell ⟨gb175, 0, none⟩ (.int .i64 ((zaf l0 x4_1).f3.f0))).setCell ⟨gb175, 1, none⟩ (.string ((zaf l0 x4_1).f3.f1))).setCell ⟨gb175, 2, none⟩ (.string ((zaf l0 x4_1).f3.f2))).setCell ⟨gb175, 3, none⟩ (.string ((zaf l0 x4_1).f3.f3))).setCell ⟨gb175, 4, none⟩ (.slice Ao18 y169.length co18)).setCell ⟨gb175, 5, none⟩ (.int .i64 ((zaf l0 x4_1).f3.f5))).setCell ⟨gb175, 6, none⟩ (.int .i64 ((zaf l0 x4_1).f3.f6))).setCell ⟨gb175, 7, none⟩ (.slice Ao17 y172.length co17)) w.heap.size (fun k_ => some k_ ≠ (.slice Ao18 y169.length co18 : Value).ownBlock ∧ some k_ ≠ (.slice Ao17 y172.length co17 : Value).ownBlock) u3 x3_1) := ⟨by (with_reducible repeat (first | apply Kd.S_alloc | apply Kd.S_drewN | apply Kd.S_drew)); exact Kd.S_mono (Kd.S_far (p := ⟨gb175, 7, none⟩) (Kd.S_far (p := ⟨gb175, 6, none⟩) (Kd.S_far (p := ⟨gb175, 5, none⟩) (Kd.S_far (p := ⟨gb175, 4, none⟩) (Kd.S_far (p := ⟨gb175, 3, none⟩) (Kd.S_far (p := ⟨gb175, 2, none⟩) (Kd.S_far (p := ⟨gb175, 1, none⟩) (Kd.S_far (p := ⟨gb175, 0, none⟩) (Kd.S_types HO_3.out BK175.out (by decide)) (fun _ hk => hk.2) (.int .i64 ((zaf l0 x4_1).f3.f0))) (fun _ hk => hk.2) (.string ((zaf l0 x4_1).f3.f1))) (fun _ hk => hk.2) (.string ((zaf l0 x4_1).f3.f2))) (fun _ hk => hk.2) (.string ((zaf l0 x4_1).f3.f3))) (fun _ hk => hk.2) (.slice Ao18 y169.length co18)) (fun _ hk => hk.2) (.int .i64 ((zaf l0 x4_1).f3.f5))) (fun _ hk => hk.2) (.int .i64 ((zaf l0 x4_1).f3.f6))) (fun _ hk => hk.2) (.slice Ao17 y172.length co17)) (fun _ hk => ⟨hk.1.1, hk.1.2⟩)⟩
        have n1_ : Aside0 (Kd.R k38 38 ((((((((w16.setCell ⟨gb175, 0, none⟩ (.int .i64 ((zaf l0 x4_1).f3.f0))).setCell ⟨gb175, 1, none⟩ (.string ((zaf l0 x4_1).f3.f1))).setCell ⟨gb175, 2, none⟩ (.string ((zaf l0 x4_1).f3.f2))).setCell ⟨gb175, 3, none⟩ (.string ((zaf l0 x4_1).f3.f3))).setCell ⟨gb175, 4, none⟩ (.slice Ao18 y169.length co18)).setCell ⟨gb175, 5, none⟩ (.int .i64 ((zaf l0 x4_1).f3.f5))).setCell ⟨gb175, 6, none⟩ (.int .i64 ((zaf l0 x4_1).f3.f6))).setCell ⟨gb175, 7, none⟩ (.slice Ao17 y172.length co17)) w.heap.size (fun _ => True) (.slice Ao18 y169.length co18) y169) := ⟨by (with_reducible repeat (first | apply Kd.R_alloc | apply Kd.R_drewN | apply Kd.R_drew)); exact Kd.R_mono (Kd.R_far (p := ⟨gb175, 7, none⟩) (Kd.R_far (p := ⟨gb175, 6, none⟩) (Kd.R_far (p := ⟨gb175, 5, none⟩) (Kd.R_far (p := ⟨gb175, 4, none⟩) (Kd.R_far (p := ⟨gb175, 3, none⟩) (Kd.R_far (p := ⟨gb175, 2, none⟩) (Kd.R_far (p := ⟨gb175, 1, none⟩) (Kd.R_far (p := ⟨gb175, 0, none⟩) (Kd.R_types HO171.out BK175.out (by decide)) (fun _ hk => hk.2) (.int .i64 ((zaf l0 x4_1).f3.f0))) (fun _ hk => hk.2) (.string ((zaf l0 x4_1).f3.f1))) (fun _ hk => hk.2) (.string ((zaf l0 x4_1).f3.f2))) (fun _ hk => hk.2) (.string ((zaf l0 x4_1).f3.f3))) (fun _ hk => hk.2) (.slice Ao18 y169.length co18)) (fun _ hk => hk.2) (.int .i64 ((zaf l0 x4_1).f3.f5))) (fun _ hk => hk.2) (.int .i64 ((zaf l0 x4_1).f3.f6))) (fun _ hk => hk.2) (.slice Ao17 y172.length co17)) (fun _ hk => trivial)⟩
        have n2_ : Aside0 (Kd.R (Kd.int .i64) 3 ((((((((w16.setCell ⟨gb175, 0, none⟩ (.int .i64 ((zaf l0 x4_1).f3.f0))).setCell ⟨gb175, 1, none⟩ (.string ((zaf l0 x4_1).f3.f1))).setCell ⟨gb175, 2, none⟩ (.string ((zaf l0 x4_1).f3.f2))).setCell ⟨gb175, 3, none⟩ (.string ((zaf l0 x4_1).f3.f3))).setCell ⟨gb175, 4, none⟩ (.slice Ao18 y169.length co18)).setCell ⟨gb175, 5, none⟩ (.int .i64 ((zaf l0 x4_1).f3.f5))).setCell ⟨gb175, 6, none⟩ (.int .i64 ((zaf l0 x4_1).f3.f6))).setCell ⟨gb175, 7, none⟩ (.slice Ao17 y172.length co17)) w.heap.size (fun _ => True) (.slice Ao17 y172.length co17) y172) := ⟨by (with_reducible repeat (first | apply Kd.R_alloc | apply Kd.R_drewN | apply Kd.R_drew)); exact Kd.R_mono (Kd.R_far (p := ⟨gb175, 7, none⟩) (Kd.R_far (p := ⟨gb175, 6, none⟩) (Kd.R_far (p := ⟨gb175, 5, none⟩) (Kd.R_far (p := ⟨gb175, 4, none⟩) (Kd.R_far (p := ⟨gb175, 3, none⟩) (Kd.R_far (p := ⟨gb175, 2, none⟩) (Kd.R_far (p := ⟨gb175, 1, none⟩) (Kd.R_far (p := ⟨gb175, 0, none⟩) (Kd.R_types HO174.out BK175.out (by decide)) (fun _ hk => hk.2) (.int .i64 ((zaf l0 x4_1).f3.f0))) (fun _ hk => hk.2) (.string ((zaf l0 x4_1).f3.f1))) (fun _ hk => hk.2) (.string ((zaf l0 x4_1).f3.f2))) (fun _ hk => hk.2) (.string ((zaf l0 x4_1).f3.f3))) (fun _ hk => hk.2) (.slice Ao18 y169.length co18)) (fun _ hk => hk.2) (.int .i64 ((zaf l0 x4_1).f3.f5))) (fun _ hk => hk.2) (.int .i64 ((zaf l0 x4_1).f3.f6))) (fun _ hk => hk.2) (.slice Ao17 y172.length co17)) (fun _ hk => trivial)⟩
        have n3_ : Aside0 (((((((((w16.setCell ⟨gb175, 0, none⟩ (.int .i64 ((zaf l0 x4_1).f3.f0))).setCell ⟨gb175, 1, none⟩ (.string ((zaf l0 x4_1).f3.f1))).setCell ⟨gb175, 2, none⟩ (.string ((zaf l0 x4_1).f3.f2))).setCell ⟨gb175, 3, none⟩ (.string ((zaf l0 x4_1).f3.f3))).setCell ⟨gb175, 4, none⟩ (.slice Ao18 y169.length co18)).setCell ⟨gb175, 5, none⟩ (.int .i64 ((zaf l0 x4_1).f3.f5))).setCell ⟨gb175, 6, none⟩ (.int .i64 ((zaf l0 x4_1).f3.f6))).setCell ⟨gb175, 7, none⟩ (.slice Ao17 y172.length co17)).heap[gb168]? = some (.cells #[.int .i64 ((zaf l0 x4_1).f3.f0), .string ((zaf l0 x4_1).f3.f1), .string ((zaf l0 x4_1).f3.f2), .string ((zaf l0 x4_1).f3.f3), .slice A167_7 ((zaf l0 x4_1).f3.f4).length c167_7, .int .i64 ((zaf l0 x4_1).f3.f5), .int .i64 ((zaf l0 x4_1).f3.f6), .slice A167_10 ((zaf l0 x4_1).f3.f7).length c167_10] 34 (0, 0))) := ⟨by (with_reducible repeat (first | refine zah ?_ _ | refine zai ?_ | refine zag ?_ _)); refine blk_far ?_ NB168_175.out _; (with_reducible repeat (first | refine zah ?_ _ | refine zai ?_ | refine zag ?_ _)); refine blk_far ?_ NB168_175.out _; (with_reducible repeat (first | refine zah ?_ _ | refine zai ?_ | refine zag ?_ _)); refine blk_far ?_ NB168_175.out _; (with_reducible repeat (first | refine zah ?_ _ | refine zai ?_ | refine zag ?_ _)); refine blk_far ?_ NB168_175.out _; (with_reducible repeat (first | refine zah ?_ _ | refine zai ?_ | refine zag ?_ _)); refine blk_far ?_ NB168_175.out _; (with_reducible repeat (first | refine zah ?_ _ | refine zai ?_ | refine zag ?_ _)); refine blk_far ?_ NB168_175.out _; (with_reducible repeat (first | refine zah ?_ _ | refine zai ?_ | refine zag ?_ _)); refine blk_far ?_ NB168_175.out _; (with_reducible repeat (first | refine zah ?_ _ | refine zai ?_ | refine zag ?_ _)); refine blk_far ?_ NB168_175.out _; (with_reducible repeat (first | refine zah ?_ _ | refine zai ?_ | refine zag ?_ _)); exact BK168.out⟩
        have n4_ : Aside0 (((((((((w16.setCell ⟨gb175, 0, none⟩ (.int .i64 ((zaf l0 x4_1).f3.f0))).setCell ⟨gb175, 1, none⟩ (.string ((zaf l0 x4_1).f3.f1))).setCell ⟨gb175, 2, none⟩ (.string ((zaf l0 x4_1).f3.f2))).setCell ⟨gb175, 3, none⟩ (.string ((zaf l0 x4_1).f3.f3))).setCell ⟨gb175, 4, none⟩ (.slice Ao18 y169.length co18)).setCell ⟨gb175, 5, none⟩ (.int .i64 ((zaf l0 x4_1).f3.f5))).setCell ⟨gb175, 6, none⟩ (.int .i64 ((zaf l0 x4_1).f3.f6))).setCell ⟨gb175, 7, none⟩ (.slice Ao17 y172.length co17)).heap[gb175]? = some (.cells #[.int .i64 ((zaf l0 x4_1).f3.f0), .string ((zaf l0 x4_1).f3.f1), .string ((zaf l0 x4_1).f3.f2), .string ((zaf l0 x4_1).f3.f3), .slice Ao18 y169.length co18, .int .i64 ((zaf l0 x4_1).f3.f5), .int .i64 ((zaf l0 x4_1).f3.f6), .slice Ao17 y172.length co17] 55 (0, 0))) := ⟨by (with_reducible repeat (first | refine zah ?_ _ | refine zai ?_ | refine zag ?_ _)); refine zao (cs := #[.int .i64 ((zaf l0 x4_1).f3.f0), .string ((zaf l0 x4_1).f3.f1), .string ((zaf l0 x4_1).f3.f2), .string ((zaf l0 x4_1).f3.f3), .slice Ao18 y169.length co18, .int .i64 ((zaf l0 x4_1).f3.f5), .int .i64 ((zaf l0 x4_1).f3.f6), .slice none 0 0]) ?_ 7 _ rfl; (with_reducible repeat (first | refine zah ?_ _ | refine zai ?_ | refine zag ?_ _)); refine zao (cs := #[.int .i64 ((zaf l0 x4_1).f3.f0), .string ((zaf l0 x4_1).f3.f1), .string ((zaf l0 x4_1).f3.f2), .string ((zaf l0 x4_1).f3.f3), .slice Ao18 y169.length co18, .int .i64 ((zaf l0 x4_1).f3.f5), .int .i64 0, .slice none 0 0]) ?_ 6 _ rfl; (with_reducible repeat (first | refine zah ?_ _ | refine zai ?_ | refine zag ?_ _)); refine zao (cs := #[.int .i64 ((zaf l0 x4_1).f3.f0), .string ((zaf l0 x4_1).f3.f1), .string ((zaf l0 x4_1).f3.f2), .string ((zaf l0 x4_1).f3.f3), .slice Ao18 y169.length co18, .int .i64 0, .int .i64 0, .slice none 0 0]) ?_ 5 _ rfl; (with_reducible repeat (first | refine zah ?_ _ | refine zai ?_ | refine zag ?_ _)); refine zao (cs := #[.int .i64 ((zaf l0 x4_1).f3.f0), .string ((zaf l0 x4_1).f3.f1), .string ((zaf l0 x4_1).f3.f2), .string ((zaf l0 x4_1).f3.f3), .slice none 0 0, .int .i64 0, .int .i64 0, .slice none 0 0]) ?_ 4 _ rfl; (with_reducible repeat (first | refine zah ?_ _ | refine zai ?_ | refine zag ?_ _)); refine zao (cs := #[.int .i64 ((zaf l0 x4_1).f3.f0), .string ((zaf l0 x4_1).f3.f1), .string ((zaf l0 x4_1).f3.f2), .string (⟨#[]⟩ : ByteArray), .slice none 0 0, .int .i64 0, .int .i64 0, .slice none 0 0]) ?_ 3 _ rfl; (with_reducible repeat (first | refine zah ?_ _ | refine zai ?_ | refine zag ?_ _)); refine zao (cs := #[.int .i64 ((zaf l0 x4_1).f3.f0), .string ((zaf l0 x4_1).f3.f1), .string (⟨#[]⟩ : ByteArray), .string (⟨#[]⟩ : ByteArray), .slice none 0 0, .int .i64 0, .int .i64 0, .slice none 0 0]) ?_ 2 _ rfl; (with_reducible repeat (first | refine zah ?_ _ | refine zai ?_ | refine zag ?_ _)); refine zao (cs := #[.int .i64 ((zaf l0 x4_1).f3.f0), .string (⟨#[]⟩ : ByteArray), .string (⟨#[]⟩ : ByteArray), .string (⟨#[]⟩ : ByteArray), .slice none 0 0, .int .i64 0, .int .i64 0, .slice none 0 0]) ?_ 1 _ rfl; (with_reducible repeat (first | refine zah ?_ _ | refine zai ?_ | refine zag ?_ _)); refine zao (cs := #[.int .i64 0, .string (⟨#[]⟩ : ByteArray), .string (⟨#[]⟩ : ByteArray), .string (⟨#[]⟩ : ByteArray), .slice none 0 0, .int .i64 0, .int .i64 0, .slice none 0 0]) ?_ 0 _ rfl; (with_reducible repeat (first | refine zah ?_ _ | refine zai ?_ | refine zag ?_ _)); exact BK175.out⟩
        have n5_ : Aside0 (Below w.heap.size w ((((((((w16.setCell ⟨gb175, 0, none⟩ (.int .i64 ((zaf l0 x4_1).f3.f0))).setCell ⟨gb175, 1, none⟩ (.string ((zaf l0 x4_1).f3.f1))).setCell ⟨gb175, 2, none⟩ (.string ((zaf l0 x4_1).f3.f2))).setCell ⟨gb175, 3, none⟩ (.string ((zaf l0 x4_1).f3.f3))).setCell ⟨gb175, 4, none⟩ (.slice Ao18 y169.length co18)).setCell ⟨gb175, 5, none⟩ (.int .i64 ((zaf l0 x4_1).f3.f5))).setCell ⟨gb175, 6, none⟩ (.int .i64 ((zaf l0 x4_1).f3.f6))).setCell ⟨gb175, 7, none⟩ (.slice Ao17 y172.length co17))) := ⟨by repeat (first | (with_reducible first | exact HB.out | apply zae | apply zab | apply zad | refine zaj ?_ GE168.out | refine zaj ?_ GE175.out) | exact HB.out)⟩
        (try clear HO_3)
        (try clear HO171)
        (try clear HO174)
        (try clear BK168)
        (try clear BK175)
        (try clear HB)
        generalize ((((((((w16.setCell ⟨gb175, 0, none⟩ (.int .i64 ((zaf l0 x4_1).f3.f0))).setCell ⟨gb175, 1, none⟩ (.string ((zaf l0 x4_1).f3.f1))).setCell ⟨gb175, 2, none⟩ (.string ((zaf l0 x4_1).f3.f2))).setCell ⟨gb175, 3, none⟩ (.string ((zaf l0 x4_1).f3.f3))).setCell ⟨gb175, 4, none⟩ (.slice Ao18 y169.length co18)).setCell ⟨gb175, 5, none⟩ (.int .i64 ((zaf l0 x4_1).f3.f5))).setCell ⟨gb175, 6, none⟩ (.int .i64 ((zaf l0 x4_1).f3.f6))).setCell ⟨gb175, 7, none⟩ (.slice Ao17 y172.length co17)) = w27 at n0_ n1_ n2_ n3_ n4_ n5_ ⊢
        have HO_3 := n0_
        have HO171 := n1_
        have HO174 := n2_
        have BK168 := n3_
        have BK175 := n4_
        have HB := n5_
        clear n0_ n1_ n2_ n3_ n4_ n5_
        have n0_ := Aside0.mk (Kd.S_drew HO_3.out)
        have n1_ := Aside0.mk (Kd.R_drew HO171.out)
        have n2_ := Aside0.mk (Kd.R_drew HO174.out)
        have n3_ := Aside0.mk (zai BK168.out)
        have n4_ := Aside0.mk (zai BK175.out)
        have n5_ := Aside0.mk (zad HB.out)
        clear HO_3
        clear HO171
        clear HO174
        clear BK168
        clear BK175
        clear HB
        have HO_3 := n0_
        have HO171 := n1_
        have HO174 := n2_
        have BK168 := n3_
        have BK175 := n4_
        have HB := n5_
        clear n0_ n1_ n2_ n3_ n4_ n5_
        have p176 : 0 ≤ (x4_1 : Int) := of_decide_eq_true (by first | (with_reducible assumption) | assumption)
        have q176 : x4_1 < (l0.length : Int) := of_decide_eq_true (by first | (with_reducible assumption) | assumption)
        obtain ⟨ad176, A176_7, c176_7, A176_10, c176_10, e176, hx176_0, hx176_1, hx176_2, hx176_3, hx176_4, hx176_5, hx176_6, hx176_7, hx176_8, hx176_9, hx176_10, hx176_11, hl176_7, hi176_7, hl176_10, hi176_10⟩ := at_T36 HR0.out x4_1 p176 q176
        have hw176_11 := hx176_11
        have hw176_10 := hx176_10
        have hw176_9 := hx176_9
        have hw176_8 := hx176_8
        have hw176_7 := hx176_7
        have hw176_6 := hx176_6
        have hw176_5 := hx176_5
        have hw176_4 := hx176_4
        have hw176_3 := hx176_3
        have hw176_2 := hx176_2
        have hw176_1 := hx176_1
        have hw176_0 := hx176_0
        obtain rfl : ad167 = ad176 := (by injection e176)
        replace hx176_0 := (HB.out.cell (World.block_lt_of_cell? w _ hx176_0)).trans hx176_0
        replace hx176_1 := (HB.out.cell (World.block_lt_of_cell? w _ hx176_1)).trans hx176_1
        replace hx176_2 := (HB.out.cell (World.block_lt_of_cell? w _ hx176_2)).trans hx176_2
        replace hx176_3 := (HB.out.cell (World.block_lt_of_cell? w _ hx176_3)).trans hx176_3
        replace hx176_4 := (HB.out.cell (World.block_lt_of_cell? w _ hx176_4)).trans hx176_4
        replace hx176_5 := (HB.out.cell (World.block_lt_of_cell? w _ hx176_5)).trans hx176_5
        replace hx176_6 := (HB.out.cell (World.block_lt_of_cell? w _ hx176_6)).trans hx176_6
        replace hx176_7 := (HB.out.cell (World.block_lt_of_cell? w _ hx176_7)).trans hx176_7
        replace hx176_8 := (HB.out.cell (World.block_lt_of_cell? w _ hx176_8)).trans hx176_8
        replace hx176_9 := (HB.out.cell (World.block_lt_of_cell? w _ hx176_9)).trans hx176_9
        replace hx176_10 := (HB.out.cell (World.block_lt_of_cell? w _ hx176_10)).trans hx176_10
        replace hx176_11 := (HB.out.cell (World.block_lt_of_cell? w _ hx176_11)).trans hx176_11
        have HR176_7 := Aside0.mk hi176_7
        have HC176_7 := Aside0.mk hl176_7
        clear hi176_7 hl176_7
        have HR176_10 := Aside0.mk hi176_10
        have HC176_10 := Aside0.mk hl176_10
        clear hi176_10 hl176_10
        replace p176 := eq_true p176
        replace q176 := eq_true q176
        have p177 : 0 ≤ (x4_1 : Int) := of_decide_eq_true (by first | (with_reducible assumption) | assumption)
        have q177 : x4_1 < (l0.length : Int) := of_decide_eq_true (by first | (with_reducible assumption) | assumption)
        obtain ⟨ad177, A177_7, c177_7, A177_10, c177_10, e177, hx177_0, hx177_1, hx177_2, hx177_3, hx177_4, hx177_5, hx177_6, hx177_7, hx177_8, hx177_9, hx177_10, hx177_11, hl177_7, hi177_7, hl177_10, hi177_10⟩ := at_T36 HR0.out x4_1 p177 q177
        have hw177_11 := hx177_11
        have hw177_10 := hx177_10
        have hw177_9 := hx177_9
        have hw177_8 := hx177_8
        have hw177_7 := hx177_7
        have hw177_6 := hx177_6
        have hw177_5 := hx177_5
        have hw177_4 := hx177_4
        have hw177_3 := hx177_3
        have hw177_2 := hx177_2
        have hw177_1 := hx177_1
        have hw177_0 := hx177_0
        obtain rfl : ad167 = ad177 := (by injection e177)
        replace hx177_0 := (HB.out.cell (World.block_lt_of_cell? w _ hx177_0)).trans hx177_0
        replace hx177_1 := (HB.out.cell (World.block_lt_of_cell? w _ hx177_1)).trans hx177_1
        replace hx177_2 := (HB.out.cell (World.block_lt_of_cell? w _ hx177_2)).trans hx177_2
        replace hx177_3 := (HB.out.cell (World.block_lt_of_cell? w _ hx177_3)).trans hx177_3
        replace hx177_4 := (HB.out.cell (World.block_lt_of_cell? w _ hx177_4)).trans hx177_4
        replace hx177_5 := (HB.out.cell (World.block_lt_of_cell? w _ hx177_5)).trans hx177_5
        replace hx177_6 := (HB.out.cell (World.block_lt_of_cell? w _ hx177_6)).trans hx177_6
        replace hx177_7 := (HB.out.cell (World.block_lt_of_cell? w _ hx177_7)).trans hx177_7
        replace hx177_8 := (HB.out.cell (World.block_lt_of_cell? w _ hx177_8)).trans hx177_8
        replace hx177_9 := (HB.out.cell (World.block_lt_of_cell? w _ hx177_9)).trans hx177_9
        replace hx177_10 := (HB.out.cell (World.block_lt_of_cell? w _ hx177_10)).trans hx177_10
        replace hx177_11 := (HB.out.cell (World.block_lt_of_cell? w _ hx177_11)).trans hx177_11
        have HR177_7 := Aside0.mk hi177_7
        have HC177_7 := Aside0.mk hl177_7
        clear hi177_7 hl177_7
        have HR177_10 := Aside0.mk hi177_10
        have HC177_10 := Aside0.mk hl177_10
        clear hi177_10 hl177_10
        replace p177 := eq_true p177
        replace q177 := eq_true q177
        have ea_ := Option.some.inj (hx176_7.symm.trans hx177_7)
        injection ea_ with ea_ en_ ec_
        subst ea_
        subst ec_
        clear en_
        have ea_ := Option.some.inj (hx176_10.symm.trans hx177_10)
        injection ea_ with ea_ en_ ec_
        subst ea_
        subst ec_
        clear en_
        have p178 : 0 ≤ (x4_1 : Int) := of_decide_eq_true (by first | (with_reducible assumption) | assumption)
        have q178 : x4_1 < (l0.length : Int) := of_decide_eq_true (by first | (with_reducible assumption) | assumption)
        obtain ⟨ad178, A178_7, c178_7, A178_10, c178_10, e178, hx178_0, hx178_1, hx178_2, hx178_3, hx178_4, hx178_5, hx178_6, hx178_7, hx178_8, hx178_9, hx178_10, hx178_11, hl178_7, hi178_7, hl178_10, hi178_10⟩ := at_T36 HR0.out x4_1 p178 q178
        have hw178_11 := hx178_11
        have hw178_10 := hx178_10
        have hw178_9 := hx178_9
        have hw178_8 := hx178_8
        have hw178_7 := hx178_7
        have hw178_6 := hx178_6
        have hw178_5 := hx178_5
        have hw178_4 := hx178_4
        have hw178_3 := hx178_3
        have hw178_2 := hx178_2
        have hw178_1 := hx178_1
        have hw178_0 := hx178_0
        obtain rfl : ad167 = ad178 := (by injection e178)
        replace hx178_0 := (HB.out.cell (World.block_lt_of_cell? w _ hx178_0)).trans hx178_0
        replace hx178_1 := (HB.out.cell (World.block_lt_of_cell? w _ hx178_1)).trans hx178_1
        replace hx178_2 := (HB.out.cell (World.block_lt_of_cell? w _ hx178_2)).trans hx178_2
        replace hx178_3 := (HB.out.cell (World.block_lt_of_cell? w _ hx178_3)).trans hx178_3
        replace hx178_4 := (HB.out.cell (World.block_lt_of_cell? w _ hx178_4)).trans hx178_4
        replace hx178_5 := (HB.out.cell (World.block_lt_of_cell? w _ hx178_5)).trans hx178_5
        replace hx178_6 := (HB.out.cell (World.block_lt_of_cell? w _ hx178_6)).trans hx178_6
        replace hx178_7 := (HB.out.cell (World.block_lt_of_cell? w _ hx178_7)).trans hx178_7
        replace hx178_8 := (HB.out.cell (World.block_lt_of_cell? w _ hx178_8)).trans hx178_8
        replace hx178_9 := (HB.out.cell (World.block_lt_of_cell? w _ hx178_9)).trans hx178_9
        replace hx178_10 := (HB.out.cell (World.block_lt_of_cell? w _ hx178_10)).trans hx178_10
        replace hx178_11 := (HB.out.cell (World.block_lt_of_cell? w _ hx178_11)).trans hx178_11
        have HR178_7 := Aside0.mk hi178_7
        have HC178_7 := Aside0.mk hl178_7
        clear hi178_7 hl178_7
        have HR178_10 := Aside0.mk hi178_10
        have HC178_10 := Aside0.mk hl178_10
        clear hi178_10 hl178_10
        replace p178 := eq_true p178
        replace q178 := eq_true q178
        have ea_ := Option.some.inj (hx176_7.symm.trans hx178_7)
        injection ea_ with ea_ en_ ec_
        subst ea_
        subst ec_
        clear en_
        have ea_ := Option.some.inj (hx176_10.symm.trans hx178_10)
        injection ea_ with ea_ en_ ec_
        subst ea_
        subst ec_
        clear en_
        have p179 : 0 ≤ (x4_1 : Int) := of_decide_eq_true (by first | (with_reducible assumption) | assumption)
        have q179 : x4_1 < (l0.length : Int) := of_decide_eq_true (by first | (with_reducible assumption) | assumption)
        obtain ⟨ad179, A179_7, c179_7, A179_10, c179_10, e179, hx179_0, hx179_1, hx179_2, hx179_3, hx179_4, hx179_5, hx179_6, hx179_7, hx179_8, hx179_9, hx179_10, hx179_11, hl179_7, hi179_7, hl179_10, hi179_10⟩ := at_T36 HR0.out x4_1 p179 q179
        have hw179_11 := hx179_11
        have hw179_10 := hx179_10
        have hw179_9 := hx179_9
        have hw179_8 := hx179_8
        have hw179_7 := hx179_7
        have hw179_6 := hx179_6
        have hw179_5 := hx179_5
        have hw179_4 := hx179_4
        have hw179_3 := hx179_3
        have hw179_2 := hx179_2
        have hw179_1 := hx179_1
        have hw179_0 := hx179_0
        obtain rfl : ad167 = ad179 := (by injection e179)
        replace hx179_0 := (HB.out.cell (World.block_lt_of_cell? w _ hx179_0)).trans hx179_0
        replace hx179_1 := (HB.out.cell (World.block_lt_of_cell? w _ hx179_1)).trans hx179_1
        replace hx179_2 := (HB.out.cell (World.block_lt_of_cell? w _ hx179_2)).trans hx179_2
        replace hx179_3 := (HB.out.cell (World.block_lt_of_cell? w _ hx179_3)).trans hx179_3
        replace hx179_4 := (HB.out.cell (World.block_lt_of_cell? w _ hx179_4)).trans hx179_4
        replace hx179_5 := (HB.out.cell (World.block_lt_of_cell? w _ hx179_5)).trans hx179_5
        replace hx179_6 := (HB.out.cell (World.block_lt_of_cell? w _ hx179_6)).trans hx179_6
        replace hx179_7 := (HB.out.cell (World.block_lt_of_cell? w _ hx179_7)).trans hx179_7
        replace hx179_8 := (HB.out.cell (World.block_lt_of_cell? w _ hx179_8)).trans hx179_8
        replace hx179_9 := (HB.out.cell (World.block_lt_of_cell? w _ hx179_9)).trans hx179_9
        replace hx179_10 := (HB.out.cell (World.block_lt_of_cell? w _ hx179_10)).trans hx179_10
        replace hx179_11 := (HB.out.cell (World.block_lt_of_cell? w _ hx179_11)).trans hx179_11
        have HR179_7 := Aside0.mk hi179_7
        have HC179_7 := Aside0.mk hl179_7
        clear hi179_7 hl179_7
        have HR179_10 := Aside0.mk hi179_10
        have HC179_10 := Aside0.mk hl179_10
        clear hi179_10 hl179_10
        replace p179 := eq_true p179
        replace q179 := eq_true q179
        have ea_ := Option.some.inj (hx176_7.symm.trans hx179_7)
        injection ea_ with ea_ en_ ec_
        subst ea_
        subst ec_
        clear en_
        have ea_ := Option.some.inj (hx176_10.symm.trans hx179_10)
        injection ea_ with ea_ en_ ec_
        subst ea_
        subst ec_
        clear en_
        refine start_ (n := 26) (S := fun w' => w'.cell? ⟨gb175, 0, none⟩ = some (.int .i64 ((zaf l0 x4_1).f3.f0)) ∧ w'.cell? ⟨gb175, 1, none⟩ = some (.string ((zaf l0 x4_1).f3.f1)) ∧ w'.cell? ⟨gb175, 2, none⟩ = some (.string ((zaf l0 x4_1).f3.f2)) ∧ w'.cell? ⟨gb175, 3, none⟩ = some (.string ((zaf l0 x4_1).f3.f3)) ∧ w'.cell? ⟨gb175, 4, none⟩ = some (.slice Ao18 y169.length co18) ∧ w'.cell? ⟨gb175, 5, none⟩ = some (.int .i64 ((zaf l0 x4_1).f3.f5)) ∧ w'.cell? ⟨gb175, 6, none⟩ = some (.int .i64 ((zaf l0 x4_1).f3.f6)) ∧ w'.cell? ⟨gb175, 7, none⟩ = some (.slice Ao17 y172.length co17) ∧ w'.cell? (ad167.add ((x4_1).toNat * 12)) = some (.int .i64 ((zaf l0 x4_1).f0)) ∧ w'.cell? ⟨(ad167.add ((x4_1).toNat * 12)).block, (ad167.add ((x4_1).toNat * 12)).off + 1, none⟩ = some (.int .i64 ((zaf l0 x4_1).f1)) ∧ w'.cell? ⟨(ad167.add ((x4_1).toNat * 12)).block, (ad167.add ((x4_1).toNat * 12)).off + 2, none⟩ = some (.int .i64 ((zaf l0 x4_1).f2)) ∧ w'.cell? ⟨(ad167.add ((x4_1).toNat * 12)).block, (ad167.add ((x4_1).toNat * 12)).off + 3, none⟩ = some (.int .i64 ((zaf l0 x4_1).f3.f0)) ∧ w'.cell? ⟨(ad167.add ((x4_1).toNat * 12)).block, (ad167.add ((x4_1).toNat * 12)).off + 4, none⟩ = some (.string ((zaf l0 x4_1).f3.f1)) ∧ w'.cell? ⟨(ad167.add ((x4_1).toNat * 12)).block, (ad167.add ((x4_1).toNat * 12)).off + 5, none⟩ = some (.string ((zaf l0 x4_1).f3.f2)) ∧ w'.cell? ⟨(ad167.add ((x4_1).toNat * 12)).block, (ad167.add ((x4_1).toNat * 12)).off + 6, none⟩ = some (.string ((zaf l0 x4_1).f3.f3)) ∧ w'.cell? ⟨(ad167.add ((x4_1).toNat * 12)).block, (ad167.add ((x4_1).toNat * 12)).off + 7, none⟩ = some (.slice A176_7 ((zaf l0 x4_1).f3.f4).length c176_7) ∧ w'.cell? ⟨(ad167.add ((x4_1).toNat * 12)).block, (ad167.add ((x4_1).toNat * 12)).off + 8, none⟩ = some (.int .i64 ((zaf l0 x4_1).f3.f5)) ∧ w'.cell? ⟨(ad167.add ((x4_1).toNat * 12)).block, (ad167.add ((x4_1).toNat * 12)).off + 9, none⟩ = some (.int .i64 ((zaf l0 x4_1).f3.f6)) ∧ w'.cell? ⟨(ad167.add ((x4_1).toNat * 12)).block, (ad167.add ((x4_1).toNat * 12)).off + 10, none⟩ = some (.slice A176_10 ((zaf l0 x4_1).f3.f7).length c176_10) ∧ w'.cell? ⟨(ad167.add ((x4_1).toNat * 12)).block, (ad167.add ((x4_1).toNat * 12)).off + 11, none⟩ = some (.string ((zaf l0 x4_1).f4)) ∧ w'.cell? (ad167.add ((x4_1).toNat * 12)) = some (.int .i64 ((zaf l0 x4_1).f0)) ∧ w'.cell? ⟨(ad167.add ((x4_1).toNat * 12)).block, (ad167.add ((x4_1).toNat * 12)).off + 1, none⟩ = some (.int .i64 ((zaf l0 x4_1).f1)) ∧ w'.cell? ⟨(ad167.add ((x4_1).toNat * 12)).block, (ad167.add ((x4_1).toNat * 12)).off + 2, none⟩ = some (.int .i64 ((zaf l0 x4_1).f2)) ∧ w'.cell? ⟨(ad167.add ((x4_1).toNat * 12)).block, (ad167.add ((x4_1).toNat * 12)).off + 3, none⟩ = some (.int .i64 ((zaf l0 x4_1).f3.f0)) ∧ w'.cell? ⟨(ad167.add ((x4_1).toNat * 12)).block, (ad167.add ((x4_1).toNat * 12)).off + 4, none⟩ = some (.string ((zaf l0 x4_1).f3.f1)) ∧ w'.cell? ⟨(ad167.add ((x4_1).toNat * 12)).block, (ad167.add ((x4_1).toNat * 12)).off + 5, none⟩ = some (.string ((zaf l0 x4_1).f3.f2)) ∧ w'.cell? ⟨(ad167.add ((x4_1).toNat * 12)).block, (ad167.add ((x4_1).toNat * 12)).off + 6, none⟩ = some (.string ((zaf l0 x4_1).f3.f3)) ∧ w'.cell? ⟨(ad167.add ((x4_1).toNat * 12)).block, (ad167.add ((x4_1).toNat * 12)).off + 7, none⟩ = some (.slice A176_7 ((zaf l0 x4_1).f3.f4).length c176_7) ∧ w'.cell? ⟨(ad167.add ((x4_1).toNat * 12)).block, (ad167.add ((x4_1).toNat * 12)).off + 8, none⟩ = some (.int .i64 ((zaf l0 x4_1).f3.f5)) ∧ w'.cell? ⟨(ad167.add ((x4_1).toNat * 12)).block, (ad167.add ((x4_1).toNat * 12)).off + 9, none⟩ = some (.int .i64 ((zaf l0 x4_1).f3.f6)) ∧ w'.cell? ⟨(ad167.add ((x4_1).toNat * 12)).block, (ad167.add ((x4_1).toNat * 12)).off + 10, none⟩ = some (.slice A176_10 ((zaf l0 x4_1).f3.f7).length c176_10) ∧ w'.cell? ⟨(ad167.add ((x4_1).toNat * 12)).block, (ad167.add ((x4_1).toNat * 12)).off + 11, none⟩ = some (.string ((zaf l0 x4_1).f4)) ∧ w'.cell? (ad167.add ((x4_1).toNat * 12)) = some (.int .i64 ((zaf l0 x4_1).f0)) ∧ w'.cell? ⟨(ad167.add ((x4_1).toNat * 12)).block, (ad167.add ((x4_1).toNat * 12)).off + 1, none⟩ = some (.int .i64 ((zaf l0 x4_1).f1)) ∧ w'.cell? ⟨(ad167.add ((x4_1).toNat * 12)).block, (ad167.add ((x4_1).toNat * 12)).off + 2, none⟩ = some (.int .i64 ((zaf l0 x4_1).f2)) ∧ w'.cell? ⟨(ad167.add ((x4_1).toNat * 12)).block, (ad167.add ((x4_1).toNat * 12)).off + 3, none⟩ = some (.int .i64 ((zaf l0 x4_1).f3.f0)) ∧ w'.cell? ⟨(ad167.add ((x4_1).toNat * 12)).block, (ad167.add ((x4_1).toNat * 12)).off + 4, none⟩ = some (.string ((zaf l0 x4_1).f3.f1)) ∧ w'.cell? ⟨(ad167.add ((x4_1).toNat * 12)).block, (ad167.add ((x4_1).toNat * 12)).off + 5, none⟩ = some (.string ((zaf l0 x4_1).f3.f2)) ∧ w'.cell? ⟨(ad167.add ((x4_1).toNat * 12)).block, (ad167.add ((x4_1).toNat * 12)).off + 6, none⟩ = some (.string ((zaf l0 x4_1).f3.f3)) ∧ w'.cell? ⟨(ad167.add ((x4_1).toNat * 12)).block, (ad167.add ((x4_1).toNat * 12)).off + 7, none⟩ = some (.slice A176_7 ((zaf l0 x4_1).f3.f4).length c176_7) ∧ w'.cell? ⟨(ad167.add ((x4_1).toNat * 12)).block, (ad167.add ((x4_1).toNat * 12)).off + 8, none⟩ = some (.int .i64 ((zaf l0 x4_1).f3.f5)) ∧ w'.cell? ⟨(ad167.add ((x4_1).toNat * 12)).block, (ad167.add ((x4_1).toNat * 12)).off + 9, none⟩ = some (.int .i64 ((zaf l0 x4_1).f3.f6)) ∧ w'.cell? ⟨(ad167.add ((x4_1).toNat * 12)).block, (ad167.add ((x4_1).toNat * 12)).off + 10, none⟩ = some (.slice A176_10 ((zaf l0 x4_1).f3.f7).length c176_10) ∧ w'.cell? ⟨(ad167.add ((x4_1).toNat * 12)).block, (ad167.add ((x4_1).toNat * 12)).off + 11, none⟩ = some (.string ((zaf l0 x4_1).f4)) ∧ w'.cell? (ad167.add ((x4_1).toNat * 12)) = some (.int .i64 ((zaf l0 x4_1).f0)) ∧ w'.cell? ⟨(ad167.add ((x4_1).toNat * 12)).block, (ad167.add ((x4_1).toNat * 12)).off + 1, none⟩ = some (.int .i64 ((zaf l0 x4_1).f1)) ∧ w'.cell? ⟨(ad167.add ((x4_1).toNat * 12)).block, (ad167.add ((x4_1).toNat * 12)).off + 2, none⟩ = some (.int .i64 ((zaf l0 x4_1).f2)) ∧ w'.cell? ⟨(ad167.add ((x4_1).toNat * 12)).block, (ad167.add ((x4_1).toNat * 12)).off + 3, none⟩ = some (.int .i64 ((zaf l0 x4_1).f3.f0)) ∧ w'.cell? ⟨(ad167.add ((x4_1).toNat * 12)).block, (ad167.add ((x4_1).toNat * 12)).off + 4, none⟩ = some (.string ((zaf l0 x4_1).f3.f1)) ∧ w'.cell? ⟨(ad167.add ((x4_1).toNat * 12)).block, (ad167.add ((x4_1).toNat * 12)).off + 5, none⟩ = some (.string ((zaf l0 x4_1).f3.f2)) ∧ w'.cell? ⟨(ad167.add ((x4_1).toNat * 12)).block, (ad167.add ((x4_1).toNat * 12)).off + 6, none⟩ = some (.string ((zaf l0 x4_1).f3.f3)) ∧ w'.cell? ⟨(ad167.add ((x4_1).toNat * 12)).block, (ad167.add ((x4_1).toNat * 12)).off + 7, none⟩ = some (.slice A176_7 ((zaf l0 x4_1).f3.f4).length c176_7) ∧ w'.cell? ⟨(ad167.add ((x4_1).toNat * 12)).block, (ad167.add ((x4_1).toNat * 12)).off + 8, none⟩ = some (.int .i64 ((zaf l0 x4_1).f3.f5)) ∧ w'.cell? ⟨(ad167.add ((x4_1).toNat * 12)).block, (ad167.add ((x4_1).toNat * 12)).off + 9, none⟩ = some (.int .i64 ((zaf l0 x4_1).f3.f6)) ∧ w'.cell? ⟨(ad167.add ((x4_1).toNat * 12)).block, (ad167.add ((x4_1).toNat * 12)).off + 10, none⟩ = some (.slice A176_10 ((zaf l0 x4_1).f3.f7).length c176_10) ∧ w'.cell? ⟨(ad167.add ((x4_1).toNat * 12)).block, (ad167.add ((x4_1).toNat * 12)).off + 11, none⟩ = some (.string ((zaf l0 x4_1).f4))) (ds := []) #[false, false, false, false, false, false, false, false, false, false, false, false, false, false, false, false, false, false, false, false, false, false, false, false, false, false] (by kernel_rfl) rfl rfl ⟨(zaa BK175.out 0).trans rfl, (zaa BK175.out 1).trans rfl, (zaa BK175.out 2).trans rfl, (zaa BK175.out 3).trans rfl, (zaa BK175.out 4).trans rfl, (zaa BK175.out 5).trans rfl, (zaa BK175.out 6).trans rfl, (zaa BK175.out 7).trans rfl, ((HB.out.cell (World.block_lt_of_cell? w _ hw176_0)).trans hw176_0), ((HB.out.cell (World.block_lt_of_cell? w _ hw176_1)).trans hw176_1), ((HB.out.cell (World.block_lt_of_cell? w _ hw176_2)).trans hw176_2), ((HB.out.cell (World.block_lt_of_cell? w _ hw176_3)).trans hw176_3), ((HB.out.cell (World.block_lt_of_cell? w _ hw176_4)).trans hw176_4), ((HB.out.cell (World.block_lt_of_cell? w _ hw176_5)).trans hw176_5), ((HB.out.cell (World.block_lt_of_cell? w _ hw176_6)).trans hw176_6), ((HB.out.cell (World.block_lt_of_cell? w _ hw176_7)).trans hw176_7), ((HB.out.cell (World.block_lt_of_cell? w _ hw176_8)).trans hw176_8), ((HB.out.cell (World.block_lt_of_cell? w _ hw176_9)).trans hw176_9), ((HB.out.cell (World.block_lt_of_cell? w _ hw176_10)).trans hw176_10), ((HB.out.cell (World.block_lt_of_cell? w _ hw176_11)).trans hw176_11), ((HB.out.cell (World.block_lt_of_cell? w _ hw177_0)).trans hw177_0), ((HB.out.cell (World.block_lt_of_cell? w _ hw177_1)).trans hw177_1), ((HB.out.cell (World.block_lt_of_cell? w _ hw177_2)).trans hw177_2), ((HB.out.cell (World.block_lt_of_cell? w _ hw177_3)).trans hw177_3), ((HB.out.cell (World.block_lt_of_cell? w _ hw177_4)).trans hw177_4), ((HB.out.cell (World.block_lt_of_cell? w _ hw177_5)).trans hw177_5), ((HB.out.cell (World.block_lt_of_cell? w _ hw177_6)).trans hw177_6), ((HB.out.cell (World.block_lt_of_cell? w _ hw177_7)).trans hw177_7), ((HB.out.cell (World.block_lt_of_cell? w _ hw177_8)).trans hw177_8), ((HB.out.cell (World.block_lt_of_cell? w _ hw177_9)).trans hw177_9), ((HB.out.cell (World.block_lt_of_cell? w _ hw177_10)).trans hw177_10), ((HB.out.cell (World.block_lt_of_cell? w _ hw177_11)).trans hw177_11), ((HB.out.cell (World.block_lt_of_cell? w _ hw178_0)).trans hw178_0), ((HB.out.cell (World.block_lt_of_cell? w _ hw178_1)).trans hw178_1), ((HB.out.cell (World.block_lt_of_cell? w _ hw178_2)).trans hw178_2), ((HB.out.cell (World.block_lt_of_cell? w _ hw178_3)).trans hw178_3), ((HB.out.cell (World.block_lt_of_cell? w _ hw178_4)).trans hw178_4), ((HB.out.cell (World.block_lt_of_cell? w _ hw178_5)).trans hw178_5), ((HB.out.cell (World.block_lt_of_cell? w _ hw178_6)).trans hw178_6), ((HB.out.cell (World.block_lt_of_cell? w _ hw178_7)).trans hw178_7), ((HB.out.cell (World.block_lt_of_cell? w _ hw178_8)).trans hw178_8), ((HB.out.cell (World.block_lt_of_cell? w _ hw178_9)).trans hw178_9), ((HB.out.cell (World.block_lt_of_cell? w _ hw178_10)).trans hw178_10), ((HB.out.cell (World.block_lt_of_cell? w _ hw178_11)).trans hw178_11), ((HB.out.cell (World.block_lt_of_cell? w _ hw179_0)).trans hw179_0), ((HB.out.cell (World.block_lt_of_cell? w _ hw179_1)).trans hw179_1), ((HB.out.cell (World.block_lt_of_cell? w _ hw179_2)).trans hw179_2), ((HB.out.cell (World.block_lt_of_cell? w _ hw179_3)).trans hw179_3), ((HB.out.cell (World.block_lt_of_cell? w _ hw179_4)).trans hw179_4), ((HB.out.cell (World.block_lt_of_cell? w _ hw179_5)).trans hw179_5), ((HB.out.cell (World.block_lt_of_cell? w _ hw179_6)).trans hw179_6), ((HB.out.cell (World.block_lt_of_cell? w _ hw179_7)).trans hw179_7), ((HB.out.cell (World.block_lt_of_cell? w _ hw179_8)).trans hw179_8), ((HB.out.cell (World.block_lt_of_cell? w _ hw179_9)).trans hw179_9), ((HB.out.cell (World.block_lt_of_cell? w _ hw179_10)).trans hw179_10), ((HB.out.cell (World.block_lt_of_cell? w _ hw179_11)).trans hw179_11)⟩ (fun hHeld => ?_); refine with_tabW cofferlaw22_told.tab7 cofferlaw22_told.bits7 (fun HT_ HW_ => ?_)
        generalize w27.drew = w28 at HO_3 HO171 HO174 BK168 BK175 HB HR176_10 HR176_7 HR177_10 HR177_7 HR178_10 HR178_7 HR179_10 HR179_7 hx176_0 hx176_1 hx176_10 hx176_11 hx176_2 hx176_3 hx176_4 hx176_5 hx176_6 hx176_7 hx176_8 hx176_9 hx177_0 hx177_1 hx177_10 hx177_11 hx177_2 hx177_3 hx177_4 hx177_5 hx177_6 hx177_7 hx177_8 hx177_9 hx178_0 hx178_1 hx178_10 hx178_11 hx178_2 hx178_3 hx178_4 hx178_5 hx178_6 hx178_7 hx178_8 hx178_9 hx179_0 hx179_1 hx179_10 hx179_11 hx179_2 hx179_3 hx179_4 hx179_5 hx179_6 hx179_7 hx179_8 hx179_9 hHeld ⊢
        refine pure_ (i := 0) (N := some 37) (v := ?_) (a' := ?_) #[true, false, false, false, false, false, false, false, false, false, false, false, false, false, false, false, false, false, false, false, false, false, false, false, false, false] rfl rfl (zap HT_.out (by kernel_rfl)) (fun _ _ _ h => h) (Or.inl ⟨by rfl, ?_⟩) ?_ ?_
        rotate_left
        ·
         intro w'
         go_simp
         with_reducible rfl
        rotate_left
        ·
         simp only [Act.put, List.setIfInBounds_toArray, List.set_cons_zero, List.set_cons_succ, i64_w, i32_w]
         rfl
        refine pure_ (i := 1) (N := some 38) (v := ?_) (a' := ?_) #[true, true, false, false, false, false, false, false, false, false, false, false, false, false, false, false, false, false, false, false, false, false, false, false, false, false] rfl rfl (zap HT_.out (by kernel_rfl)) (fun _ _ _ h => h) (Or.inl ⟨by rfl, ?_⟩) ?_ ?_
        rotate_left
        ·
         intro w'
         go_simp
         with_reducible rfl
        rotate_left
        ·
         simp only [Act.put, List.setIfInBounds_toArray, List.set_cons_zero, List.set_cons_succ, i64_w, i32_w]
         rfl
        refine pure_ (i := 2) (N := some 39) (v := ?_) (a' := ?_) #[true, true, true, false, false, false, false, false, false, false, false, false, false, false, false, false, false, false, false, false, false, false, false, false, false, false] rfl rfl (zap HT_.out (by kernel_rfl)) (fun _ _ _ h => h) (Or.inl ⟨by rfl, ?_⟩) ?_ ?_
        rotate_left
        ·
         intro w'
         go_simp
         with_reducible rfl
        rotate_left
        ·
         simp only [Act.put, List.setIfInBounds_toArray, List.set_cons_zero, List.set_cons_succ, i64_w, i32_w]
         rfl
        refine pure_ (i := 3) (N := some 40) (v := ?_) (a' := ?_) #[true, true, true, true, false, false, false, false, false, false, false, false, false, false, false, false, false, false, false, false, false, false, false, false, false, false] rfl rfl (zap HT_.out (by kernel_rfl)) (fun _ _ _ h => h) (Or.inl ⟨by rfl, ?_⟩) ?_ ?_
        rotate_left
        ·
         intro w'
         go_simp
         with_reducible rfl
        rotate_left
        ·
         simp only [Act.put, List.setIfInBounds_toArray, List.set_cons_zero, List.set_cons_succ, i64_w, i32_w]
         rfl
        refine pure_ (i := 4) (N := some 41) (v := ?_) (a' := ?_) #[true, true, true, true, true, false, false, false, false, false, false, false, false, false, false, false, false, false, false, false, false, false, false, false, false, false] rfl rfl (zap HT_.out (by kernel_rfl)) (fun _ _ _ h => h) (Or.inl ⟨by rfl, ?_⟩) ?_ ?_
        rotate_left
        ·
         intro w'
         go_simp
         with_reducible rfl
        rotate_left
        ·
         simp only [Act.put, List.setIfInBounds_toArray, List.set_cons_zero, List.set_cons_succ, i64_w, i32_w]
         rfl
        refine pure_ (i := 6) (N := some 43) (v := ?_) (a' := ?_) #[true, true, true, true, true, false, true, false, false, false, false, false, false, false, false, false, false, false, false, false, false, false, false, false, false, false] rfl rfl (zap HT_.out (by kernel_rfl)) (fun _ _ _ h => h) (Or.inl ⟨by rfl, ?_⟩) ?_ ?_
        rotate_left
        ·
         intro w'
         go_simp
         with_reducible rfl
        rotate_left
        ·
         simp only [Act.put, List.setIfInBounds_toArray, List.set_cons_zero, List.set_cons_succ, i64_w, i32_w]
         rfl
        refine pure_ (i := 7) (N := some 44) (v := ?_) (a' := ?_) #[true, true, true, true, true, false, true, true, false, false, false, false, false, false, false, false, false, false, false, false, false, false, false, false, false, false] rfl rfl (zap HT_.out (by kernel_rfl)) (fun _ _ _ h => h) (Or.inl ⟨by rfl, ?_⟩) ?_ ?_
        rotate_left
        ·
         intro w'
         go_simp
         with_reducible rfl
        rotate_left
        ·
         simp only [Act.put, List.setIfInBounds_toArray, List.set_cons_zero, List.set_cons_succ, i64_w, i32_w]
         rfl
        refine pure_ (i := 8) (N := some 45) (v := ?_) (a' := ?_) #[true, true, true, true, true, false, true, true, true, false, false, false, false, false, false, false, false, false, false, false, false, false, false, false, false, false] rfl rfl (zap HT_.out (by kernel_rfl)) (fun _ _ _ h => h) (Or.inl ⟨by rfl, ?_⟩) ?_ ?_
        rotate_left
        ·
         intro w'
         go_simp
         with_reducible rfl
        rotate_left
        ·
         simp only [Act.put, List.setIfInBounds_toArray, List.set_cons_zero, List.set_cons_succ, i64_w, i32_w]
         rfl
        refine pure_ (i := 9) (N := some 46) (v := ?_) (a' := ?_) #[true, true, true, true, true, false, true, true, true, true, false, false, false, false, false, false, false, false, false, false, false, false, false, false, false, false] rfl rfl (zap HT_.out (by kernel_rfl)) (fun _ _ _ h => h) (Or.inl ⟨by rfl, ?_⟩) ?_ ?_
        rotate_left
        ·
         intro w'
         go_simp
         with_reducible rfl
        rotate_left
        ·
         simp only [Act.put, List.setIfInBounds_toArray, List.set_cons_zero, List.set_cons_succ, i64_w, i32_w]
         rfl
        refine pure_ (i := 11) (N := some 48) (v := ?_) (a' := ?_) #[true, true, true, true, true, false, true, true, true, true, false, true, false, false, false, false, false, false, false, false, false, false, false, false, false, false] rfl rfl (zap HT_.out (by kernel_rfl)) (fun _ _ _ h => h) (Or.inl ⟨by rfl, ?_⟩) ?_ ?_
        rotate_left
        ·
         intro w'
         go_simp
         with_reducible rfl
        rotate_left
        ·
         simp only [Act.put, List.setIfInBounds_toArray, List.set_cons_zero, List.set_cons_succ, i64_w, i32_w]
         rfl
        refine pure_ (i := 12) (N := some 49) (v := ?_) (a' := ?_) #[true, true, true, true, true, false, true, true, true, true, false, true, true, false, false, false, false, false, false, false, false, false, false, false, false, false] rfl rfl (zap HT_.out (by kernel_rfl)) (fun _ _ _ h => h) (Or.inl ⟨by rfl, ?_⟩) ?_ ?_
        rotate_left
        ·
         intro w'
         go_simp
         with_reducible rfl
        rotate_left
        ·
         simp only [Act.put, List.setIfInBounds_toArray, List.set_cons_zero, List.set_cons_succ, i64_w, i32_w]
         rfl
        refine pure_ (i := 13) (N := some 50) (v := ?_) (a' := ?_) #[true, true, true, true, true, false, true, true, true, true, false, true, true, true, false, false, false, false, false, false, false, false, false, false, false, false] rfl rfl (zap HT_.out (by kernel_rfl)) (fun _ _ _ h => h) (Or.inl ⟨by rfl, ?_⟩) ?_ ?_
        rotate_left
        ·
         intro w'
         go_simp
         with_reducible rfl
        rotate_left
        ·
         simp only [Act.put, List.setIfInBounds_toArray, List.set_cons_zero, List.set_cons_succ, i64_w, i32_w]
         rfl
        refine pure_ (i := 14) (N := some 51) (v := ?_) (a' := ?_) #[true, true, true, true, true, false, true, true, true, true, false, true, true, true, true, false, false, false, false, false, false, false, false, false, false, false] rfl rfl (zap HT_.out (by kernel_rfl)) (fun _ _ _ h => h) (Or.inl ⟨by rfl, ?_⟩) ?_ ?_
        rotate_left
        ·
         intro w'
         go_simp
         with_reducible rfl
        rotate_left
        ·
         simp only [Act.put, List.setIfInBounds_toArray, List.set_cons_zero, List.set_cons_succ, i64_w, i32_w]
         rfl
        refine pure_ (i := 17) (N := some 54) (v := ?_) (a' := ?_) #[true, true, true, true, true, false, true, true, true, true, false, true, true, true, true, false, false, true, false, false, false, false, false, false, false, false] rfl rfl (zap HT_.out (by kernel_rfl)) (fun _ _ _ h => h) (Or.inl ⟨by rfl, ?_⟩) ?_ ?_
        rotate_left
        ·
         intro w'
         go_simp
         with_reducible rfl
        rotate_left
        ·
         simp only [Act.put, List.setIfInBounds_toArray, List.set_cons_zero, List.set_cons_succ, i64_w, i32_w]
         rfl
        refine pure_ (i := 18) (N := some 55) (v := ?_) (a' := ?_) #[true, true, true, true, true, false, true, true, true, true, false, true, true, true, true, false, false, true, true, false, false, false, false, false, false, false] rfl rfl (zap HT_.out (by kernel_rfl)) (fun _ _ _ h => h) (Or.inl ⟨by rfl, ?_⟩) ?_ ?_
        rotate_left
        ·
         intro w'
         go_simp
         with_reducible rfl
        rotate_left
        ·
         simp only [Act.put, List.setIfInBounds_toArray, List.set_cons_zero, List.set_cons_succ, i64_w, i32_w]
         rfl
        refine pure_ (i := 19) (N := some 56) (v := ?_) (a' := ?_) #[true, true, true, true, true, false, true, true, true, true, false, true, true, true, true, false, false, true, true, true, false, false, false, false, false, false] rfl rfl (zap HT_.out (by kernel_rfl)) (fun _ _ _ h => h) (Or.inl ⟨by rfl, ?_⟩) ?_ ?_
        rotate_left
        ·
         intro w'
         go_simp
         with_reducible rfl
        rotate_left
        ·
         simp only [Act.put, List.setIfInBounds_toArray, List.set_cons_zero, List.set_cons_succ, i64_w, i32_w]
         rfl
        refine pure_ (i := 20) (N := some 57) (v := ?_) (a' := ?_) #[true, true, true, true, true, false, true, true, true, true, false, true, true, true, true, false, false, true, true, true, true, false, false, false, false, false] rfl rfl (zap HT_.out (by kernel_rfl)) (fun _ _ _ h => h) (Or.inl ⟨by rfl, ?_⟩) ?_ ?_
        rotate_left
        ·
         intro w'
         go_simp
         with_reducible rfl
        rotate_left
        ·
         simp only [Act.put, List.setIfInBounds_toArray, List.set_cons_zero, List.set_cons_succ, i64_w, i32_w]
         rfl
        refine take_ (i := 5) (N := some 42) (v := ?_) (a' := ?_) #[true, true, true, true, true, true, true, true, true, true, false, true, true, true, true, false, false, true, true, true, true, false, false, false, false, false] rfl rfl (zbe HT_.out HW_.out (by kernel_rfl)) (fun _ _ _ h => h) (Or.inl ⟨by rfl, ?_⟩) hHeld ?_ ?_
        rotate_left
        ·
         rintro w' ⟨s0, s1, s2, s3, s4, s5, s6, s7, s8, s9, s10, s11, s12, s13, s14, s15, s16, s17, s18, s19, s20, s21, s22, s23, s24, s25, s26, s27, s28, s29, s30, s31, s32, s33, s34, s35, s36, s37, s38, s39, s40, s41, s42, s43, s44, s45, s46, s47, s48, s49, s50, s51, s52, s53, s54, s55⟩
         go_simp
         with_reducible rfl
        rotate_left
        ·
         simp only [Act.put, List.setIfInBounds_toArray, List.set_cons_zero, List.set_cons_succ, i64_w, i32_w]
         rfl
        refine take_ (i := 10) (N := some 47) (v := ?_) (a' := ?_) #[true, true, true, true, true, true, true, true, true, true, true, true, true, true, true, false, false, true, true, true, true, false, false, false, false, false] rfl rfl (zbe HT_.out HW_.out (by kernel_rfl)) (fun _ _ _ h => h) (Or.inl ⟨by rfl, ?_⟩) hHeld ?_ ?_
        rotate_left
        ·
         rintro w' ⟨s0, s1, s2, s3, s4, s5, s6, s7, s8, s9, s10, s11, s12, s13, s14, s15, s16, s17, s18, s19, s20, s21, s22, s23, s24, s25, s26, s27, s28, s29, s30, s31, s32, s33, s34, s35, s36, s37, s38, s39, s40, s41, s42, s43, s44, s45, s46, s47, s48, s49, s50, s51, s52, s53, s54, s55⟩
         go_simp
         with_reducible rfl
        rotate_left
        ·
         simp only [Act.put, List.setIfInBounds_toArray, List.set_cons_zero, List.set_cons_succ, i64_w, i32_w]
         rfl
        refine take_ (i := 15) (N := some 52) (v := ?_) (a' := ?_) #[true, true, true, true, true, true, true, true, true, true, true, true, true, true, true, true, false, true, true, true, true, false, false, false, false, false] rfl rfl (zbe HT_.out HW_.out (by kernel_rfl)) (fun _ _ _ h => h) (Or.inl ⟨by rfl, ?_⟩) hHeld ?_ ?_
        rotate_left
        ·
         rintro w' ⟨s0, s1, s2, s3, s4, s5, s6, s7, s8, s9, s10, s11, s12, s13, s14, s15, s16, s17, s18, s19, s20, s21, s22, s23, s24, s25, s26, s27, s28, s29, s30, s31, s32, s33, s34, s35, s36, s37, s38, s39, s40, s41, s42, s43, s44, s45, s46, s47, s48, s49, s50, s51, s52, s53, s54, s55⟩
         go_simp
         with_reducible rfl
        rotate_left
        ·
         simp only [Act.put, List.setIfInBounds_toArray, List.set_cons_zero, List.set_cons_succ, i64_w, i32_w]
         rfl
        refine take_ (i := 16) (N := some 53) (v := ?_) (a' := ?_) #[true, true, true, true, true, true, true, true, true, true, true, true, true, true, true, true, true, true, true, true, true, false, false, false, false, false] rfl rfl (zbe HT_.out HW_.out (by kernel_rfl)) (fun _ _ _ h => h) (Or.inl ⟨by rfl, ?_⟩) hHeld ?_ ?_
        rotate_left
        ·
         rintro w' ⟨s0, s1, s2, s3, s4, s5, s6, s7, s8, s9, s10, s11, s12, s13, s14, s15, s16, s17, s18, s19, s20, s21, s22, s23, s24, s25, s26, s27, s28, s29, s30, s31, s32, s33, s34, s35, s36, s37, s38, s39, s40, s41, s42, s43, s44, s45, s46, s47, s48, s49, s50, s51, s52, s53, s54, s55⟩
         go_simp
         with_reducible rfl
        rotate_left
        ·
         simp only [Act.put, List.setIfInBounds_toArray, List.set_cons_zero, List.set_cons_succ, i64_w, i32_w]
         rfl
        refine take_ (i := 21) (N := some 58) (v := ?_) (a' := ?_) #[true, true, true, true, true, true, true, true, true, true, true, true, true, true, true, true, true, true, true, true, true, true, false, false, false, false] rfl rfl (zbe HT_.out HW_.out (by kernel_rfl)) (fun _ _ _ h => h) (Or.inl ⟨by rfl, ?_⟩) hHeld ?_ ?_
        rotate_left
        ·
         rintro w' ⟨s0, s1, s2, s3, s4, s5, s6, s7, s8, s9, s10, s11, s12, s13, s14, s15, s16, s17, s18, s19, s20, s21, s22, s23, s24, s25, s26, s27, s28, s29, s30, s31, s32, s33, s34, s35, s36, s37, s38, s39, s40, s41, s42, s43, s44, s45, s46, s47, s48, s49, s50, s51, s52, s53, s54, s55⟩
         go_simp
         with_reducible rfl
        rotate_left
        ·
         simp only [Act.put, List.setIfInBounds_toArray, List.set_cons_zero, List.set_cons_succ, i64_w, i32_w]
         rfl
        refine pure_ (i := 22) (N := some 59) (v := ?_) (a' := ?_) #[true, true, true, true, true, true, true, true, true, true, true, true, true, true, true, true, true, true, true, true, true, true, true, false, false, false] rfl rfl (zap HT_.out (by kernel_rfl)) (fun _ _ _ h => h) (Or.inl ⟨by rfl, ?_⟩) ?_ ?_
        rotate_left
        ·
         intro w'
         go_simp
         with_reducible rfl
        rotate_left
        ·
         simp only [Act.put, List.setIfInBounds_toArray, List.set_cons_zero, List.set_cons_succ, i64_w, i32_w]
         rfl
        refine one_ (i := 23) (N := some 60) #[true, true, true, true, true, true, true, true, true, true, true, true, true, true, true, true, true, true, true, true, true, true, true, true, false, false] rfl rfl (one_of HT_.out (by kernel_rfl)) (by decide) (fun K hK => ?_)
        refine value_ (w1 := ?_) (v := ?_) (by rfl) rfl ?_ ?_
        rotate_left 2
        ·
         go_simp
         constructor
         ·
          rfl
         ·
          rfl
        refine hK.out _ _ ⟨(zaa (zag BK175.out _) 0).trans rfl, (zaa (zag BK175.out _) 1).trans rfl, (zaa (zag BK175.out _) 2).trans rfl, (zaa (zag BK175.out _) 3).trans rfl, (zaa (zag BK175.out _) 4).trans rfl, (zaa (zag BK175.out _) 5).trans rfl, (zaa (zag BK175.out _) 6).trans rfl, (zaa (zag BK175.out _) 7).trans rfl, (World.cell?_alloc_lt _ _ _ (World.block_lt_of_cell? _ _ (((HB.out.cell (World.block_lt_of_cell? w _ hw176_0)).trans hw176_0)))).trans (((HB.out.cell (World.block_lt_of_cell? w _ hw176_0)).trans hw176_0)), (World.cell?_alloc_lt _ _ _ (World.block_lt_of_cell? _ _ (((HB.out.cell (World.block_lt_of_cell? w _ hw176_1)).trans hw176_1)))).trans (((HB.out.cell (World.block_lt_of_cell? w _ hw176_1)).trans hw176_1)), (World.cell?_alloc_lt _ _ _ (World.block_lt_of_cell? _ _ (((HB.out.cell (World.block_lt_of_cell? w _ hw176_2)).trans hw176_2)))).trans (((HB.out.cell (World.block_lt_of_cell? w _ hw176_2)).trans hw176_2)), (World.cell?_alloc_lt _ _ _ (World.block_lt_of_cell? _ _ (((HB.out.cell (World.block_lt_of_cell? w _ hw176_3)).trans hw176_3)))).trans (((HB.out.cell (World.block_lt_of_cell? w _ hw176_3)).trans hw176_3)), (World.cell?_alloc_lt _ _ _ (World.block_lt_of_cell? _ _ (((HB.out.cell (World.block_lt_of_cell? w _ hw176_4)).trans hw176_4)))).trans (((HB.out.cell (World.block_lt_of_cell? w _ hw176_4)).trans hw176_4)), (World.cell?_alloc_lt _ _ _ (World.block_lt_of_cell? _ _ (((HB.out.cell (World.block_lt_of_cell? w _ hw176_5)).trans hw176_5)))).trans (((HB.out.cell (World.block_lt_of_cell? w _ hw176_5)).trans hw176_5)), (World.cell?_alloc_lt _ _ _ (World.block_lt_of_cell? _ _ (((HB.out.cell (World.block_lt_of_cell? w _ hw176_6)).trans hw176_6)))).trans (((HB.out.cell (World.block_lt_of_cell? w _ hw176_6)).trans hw176_6)), (World.cell?_alloc_lt _ _ _ (World.block_lt_of_cell? _ _ (((HB.out.cell (World.block_lt_of_cell? w _ hw176_7)).trans hw176_7)))).trans (((HB.out.cell (World.block_lt_of_cell? w _ hw176_7)).trans hw176_7)), (World.cell?_alloc_lt _ _ _ (World.block_lt_of_cell? _ _ (((HB.out.cell (World.block_lt_of_cell? w _ hw176_8)).trans hw176_8)))).trans (((HB.out.cell (World.block_lt_of_cell? w _ hw176_8)).trans hw176_8)), (World.cell?_alloc_lt _ _ _ (World.block_lt_of_cell? _ _ (((HB.out.cell (World.block_lt_of_cell? w _ hw176_9)).trans hw176_9)))).trans (((HB.out.cell (World.block_lt_of_cell? w _ hw176_9)).trans hw176_9)), (World.cell?_alloc_lt _ _ _ (World.block_lt_of_cell? _ _ (((HB.out.cell (World.block_lt_of_cell? w _ hw176_10)).trans hw176_10)))).trans (((HB.out.cell (World.block_lt_of_cell? w _ hw176_10)).trans hw176_10)), (World.cell?_alloc_lt _ _ _ (World.block_lt_of_cell? _ _ (((HB.out.cell (World.block_lt_of_cell? w _ hw176_11)).trans hw176_11)))).trans (((HB.out.cell (World.block_lt_of_cell? w _ hw176_11)).trans hw176_11)), (World.cell?_alloc_lt _ _ _ (World.block_lt_of_cell? _ _ (((HB.out.cell (World.block_lt_of_cell? w _ hw177_0)).trans hw177_0)))).trans (((HB.out.cell (World.block_lt_of_cell? w _ hw177_0)).trans hw177_0)), (World.cell?_alloc_lt _ _ _ (World.block_lt_of_cell? _ _ (((HB.out.cell (World.block_lt_of_cell? w _ hw177_1)).trans hw177_1)))).trans (((HB.out.cell (World.block_lt_of_cell? w _ hw177_1)).trans hw177_1)), (World.cell?_alloc_lt _ _ _ (World.block_lt_of_cell? _ _ (((HB.out.cell (World.block_lt_of_cell? w _ hw177_2)).trans hw177_2)))).trans (((HB.out.cell (World.block_lt_of_cell? w _ hw177_2)).trans hw177_2)), (World.cell?_alloc_lt _ _ _ (World.block_lt_of_cell? _ _ (((HB.out.cell (World.block_lt_of_cell? w _ hw177_3)).trans hw177_3)))).trans (((HB.out.cell (World.block_lt_of_cell? w _ hw177_3)).trans hw177_3)), (World.cell?_alloc_lt _ _ _ (World.block_lt_of_cell? _ _ (((HB.out.cell (World.block_lt_of_cell? w _ hw177_4)).trans hw177_4)))).trans (((HB.out.cell (World.block_lt_of_cell? w _ hw177_4)).trans hw177_4)), (World.cell?_alloc_lt _ _ _ (World.block_lt_of_cell? _ _ (((HB.out.cell (World.block_lt_of_cell? w _ hw177_5)).trans hw177_5)))).trans (((HB.out.cell (World.block_lt_of_cell? w _ hw177_5)).trans hw177_5)), (World.cell?_alloc_lt _ _ _ (World.block_lt_of_cell? _ _ (((HB.out.cell (World.block_lt_of_cell? w _ hw177_6)).trans hw177_6)))).trans (((HB.out.cell (World.block_lt_of_cell? w _ hw177_6)).trans hw177_6)), (World.cell?_alloc_lt _ _ _ (World.block_lt_of_cell? _ _ (((HB.out.cell (World.block_lt_of_cell? w _ hw177_7)).trans hw177_7)))).trans (((HB.out.cell (World.block_lt_of_cell? w _ hw177_7)).trans hw177_7)), (World.cell?_alloc_lt _ _ _ (World.block_lt_of_cell? _ _ (((HB.out.cell (World.block_lt_of_cell? w _ hw177_8)).trans hw177_8)))).trans (((HB.out.cell (World.block_lt_of_cell? w _ hw177_8)).trans hw177_8)), (World.cell?_alloc_lt _ _ _ (World.block_lt_of_cell? _ _ (((HB.out.cell (World.block_lt_of_cell? w _ hw177_9)).trans hw177_9)))).trans (((HB.out.cell (World.block_lt_of_cell? w _ hw177_9)).trans hw177_9)), (World.cell?_alloc_lt _ _ _ (World.block_lt_of_cell? _ _ (((HB.out.cell (World.block_lt_of_cell? w _ hw177_10)).trans hw177_10)))).trans (((HB.out.cell (World.block_lt_of_cell? w _ hw177_10)).trans hw177_10)), (World.cell?_alloc_lt _ _ _ (World.block_lt_of_cell? _ _ (((HB.out.cell (World.block_lt_of_cell? w _ hw177_11)).trans hw177_11)))).trans (((HB.out.cell (World.block_lt_of_cell? w _ hw177_11)).trans hw177_11)), (World.cell?_alloc_lt _ _ _ (World.block_lt_of_cell? _ _ (((HB.out.cell (World.block_lt_of_cell? w _ hw178_0)).trans hw178_0)))).trans (((HB.out.cell (World.block_lt_of_cell? w _ hw178_0)).trans hw178_0)), (World.cell?_alloc_lt _ _ _ (World.block_lt_of_cell? _ _ (((HB.out.cell (World.block_lt_of_cell? w _ hw178_1)).trans hw178_1)))).trans (((HB.out.cell (World.block_lt_of_cell? w _ hw178_1)).trans hw178_1)), (World.cell?_alloc_lt _ _ _ (World.block_lt_of_cell? _ _ (((HB.out.cell (World.block_lt_of_cell? w _ hw178_2)).trans hw178_2)))).trans (((HB.out.cell (World.block_lt_of_cell? w _ hw178_2)).trans hw178_2)), (World.cell?_alloc_lt _ _ _ (World.block_lt_of_cell? _ _ (((HB.out.cell (World.block_lt_of_cell? w _ hw178_3)).trans hw178_3)))).trans (((HB.out.cell (World.block_lt_of_cell? w _ hw178_3)).trans hw178_3)), (World.cell?_alloc_lt _ _ _ (World.block_lt_of_cell? _ _ (((HB.out.cell (World.block_lt_of_cell? w _ hw178_4)).trans hw178_4)))).trans (((HB.out.cell (World.block_lt_of_cell? w _ hw178_4)).trans hw178_4)), (World.cell?_alloc_lt _ _ _ (World.block_lt_of_cell? _ _ (((HB.out.cell (World.block_lt_of_cell? w _ hw178_5)).trans hw178_5)))).trans (((HB.out.cell (World.block_lt_of_cell? w _ hw178_5)).trans hw178_5)), (World.cell?_alloc_lt _ _ _ (World.block_lt_of_cell? _ _ (((HB.out.cell (World.block_lt_of_cell? w _ hw178_6)).trans hw178_6)))).trans (((HB.out.cell (World.block_lt_of_cell? w _ hw178_6)).trans hw178_6)), (World.cell?_alloc_lt _ _ _ (World.block_lt_of_cell? _ _ (((HB.out.cell (World.block_lt_of_cell? w _ hw178_7)).trans hw178_7)))).trans (((HB.out.cell (World.block_lt_of_cell? w _ hw178_7)).trans hw178_7)), (World.cell?_alloc_lt _ _ _ (World.block_lt_of_cell? _ _ (((HB.out.cell (World.block_lt_of_cell? w _ hw178_8)).trans hw178_8)))).trans (((HB.out.cell (World.block_lt_of_cell? w _ hw178_8)).trans hw178_8)), (World.cell?_alloc_lt _ _ _ (World.block_lt_of_cell? _ _ (((HB.out.cell (World.block_lt_of_cell? w _ hw178_9)).trans hw178_9)))).trans (((HB.out.cell (World.block_lt_of_cell? w _ hw178_9)).trans hw178_9)), (World.cell?_alloc_lt _ _ _ (World.block_lt_of_cell? _ _ (((HB.out.cell (World.block_lt_of_cell? w _ hw178_10)).trans hw178_10)))).trans (((HB.out.cell (World.block_lt_of_cell? w _ hw178_10)).trans hw178_10)), (World.cell?_alloc_lt _ _ _ (World.block_lt_of_cell? _ _ (((HB.out.cell (World.block_lt_of_cell? w _ hw178_11)).trans hw178_11)))).trans (((HB.out.cell (World.block_lt_of_cell? w _ hw178_11)).trans hw178_11)), (World.cell?_alloc_lt _ _ _ (World.block_lt_of_cell? _ _ (((HB.out.cell (World.block_lt_of_cell? w _ hw179_0)).trans hw179_0)))).trans (((HB.out.cell (World.block_lt_of_cell? w _ hw179_0)).trans hw179_0)), (World.cell?_alloc_lt _ _ _ (World.block_lt_of_cell? _ _ (((HB.out.cell (World.block_lt_of_cell? w _ hw179_1)).trans hw179_1)))).trans (((HB.out.cell (World.block_lt_of_cell? w _ hw179_1)).trans hw179_1)), (World.cell?_alloc_lt _ _ _ (World.block_lt_of_cell? _ _ (((HB.out.cell (World.block_lt_of_cell? w _ hw179_2)).trans hw179_2)))).trans (((HB.out.cell (World.block_lt_of_cell? w _ hw179_2)).trans hw179_2)), (World.cell?_alloc_lt _ _ _ (World.block_lt_of_cell? _ _ (((HB.out.cell (World.block_lt_of_cell? w _ hw179_3)).trans hw179_3)))).trans (((HB.out.cell (World.block_lt_of_cell? w _ hw179_3)).trans hw179_3)), (World.cell?_alloc_lt _ _ _ (World.block_lt_of_cell? _ _ (((HB.out.cell (World.block_lt_of_cell? w _ hw179_4)).trans hw179_4)))).trans (((HB.out.cell (World.block_lt_of_cell? w _ hw179_4)).trans hw179_4)), (World.cell?_alloc_lt _ _ _ (World.block_lt_of_cell? _ _ (((HB.out.cell (World.block_lt_of_cell? w _ hw179_5)).trans hw179_5)))).trans (((HB.out.cell (World.block_lt_of_cell? w _ hw179_5)).trans hw179_5)), (World.cell?_alloc_lt _ _ _ (World.block_lt_of_cell? _ _ (((HB.out.cell (World.block_lt_of_cell? w _ hw179_6)).trans hw179_6)))).trans (((HB.out.cell (World.block_lt_of_cell? w _ hw179_6)).trans hw179_6)), (World.cell?_alloc_lt _ _ _ (World.block_lt_of_cell? _ _ (((HB.out.cell (World.block_lt_of_cell? w _ hw179_7)).trans hw179_7)))).trans (((HB.out.cell (World.block_lt_of_cell? w _ hw179_7)).trans hw179_7)), (World.cell?_alloc_lt _ _ _ (World.block_lt_of_cell? _ _ (((HB.out.cell (World.block_lt_of_cell? w _ hw179_8)).trans hw179_8)))).trans (((HB.out.cell (World.block_lt_of_cell? w _ hw179_8)).trans hw179_8)), (World.cell?_alloc_lt _ _ _ (World.block_lt_of_cell? _ _ (((HB.out.cell (World.block_lt_of_cell? w _ hw179_9)).trans hw179_9)))).trans (((HB.out.cell (World.block_lt_of_cell? w _ hw179_9)).trans hw179_9)), (World.cell?_alloc_lt _ _ _ (World.block_lt_of_cell? _ _ (((HB.out.cell (World.block_lt_of_cell? w _ hw179_10)).trans hw179_10)))).trans (((HB.out.cell (World.block_lt_of_cell? w _ hw179_10)).trans hw179_10)), (World.cell?_alloc_lt _ _ _ (World.block_lt_of_cell? _ _ (((HB.out.cell (World.block_lt_of_cell? w _ hw179_11)).trans hw179_11)))).trans (((HB.out.cell (World.block_lt_of_cell? w _ hw179_11)).trans hw179_11))⟩ (fun hHeld => ?_)
        clear hK K
        refine norm_ (a' := ?_) ?_ ?_
        rotate_left
        ·
         show Act.put _ (some 60) _ = _
         simp only [Act.put, List.setIfInBounds_toArray, List.set_cons_zero, List.set_cons_succ, i64_w, i32_w]
         rfl
        refine one_ (i := 24) (N := some 61) #[true, true, true, true, true, true, true, true, true, true, true, true, true, true, true, true, true, true, true, true, true, true, true, true, true, false] rfl rfl (one_of HT_.out (by kernel_rfl)) (by decide) (fun K hK => ?_)
        refine Kd.S_append_step k57 (w0 := w) w.heap.size (by rfl) (.tmp 37) (.tmp 60) 22 57 (.agg #[(.int .i64 0), (.int .i64 0), (.int .i64 0), (.int .i64 0), (.string ⟨#[]⟩), (.string ⟨#[]⟩), (.string ⟨#[]⟩), (.slice none 0 0), (.int .i64 0), (.int .i64 0), (.slice none 0 0), (.string ⟨#[]⟩)]) 160 rfl Tryd.underlying22 info57 rfl (by decide) (by omega) u3 x3_1 (⟨(zaf l0 x4_1).f0, (zaf l0 x4_1).f1, (zaf l0 x4_1).f2, (⟨(zaf l0 x4_1).f3.f0, (zaf l0 x4_1).f3.f1, (zaf l0 x4_1).f3.f2, (zaf l0 x4_1).f3.f3, y169, (zaf l0 x4_1).f3.f5, (zaf l0 x4_1).f3.f6, y172⟩ : S55), (zaf l0 x4_1).f4⟩ : S57) [.int .i64 ((zaf l0 x4_1).f0), .int .i64 ((zaf l0 x4_1).f1), .int .i64 ((zaf l0 x4_1).f2), .int .i64 ((zaf l0 x4_1).f3.f0), .string ((zaf l0 x4_1).f3.f1), .string ((zaf l0 x4_1).f3.f2), .string ((zaf l0 x4_1).f3.f3), .slice Ao18 y169.length co18, .int .i64 ((zaf l0 x4_1).f3.f5), .int .i64 ((zaf l0 x4_1).f3.f6), .slice Ao17 y172.length co17, .string ((zaf l0 x4_1).f4)] (fun _ => True) (fun k_ => some k_ = (.slice Ao18 y169.length co18 : Value).ownBlock ∨ some k_ = (.slice Ao17 y172.length co17 : Value).ownBlock) rfl rfl ?aP (fun k_ hk_ => hk_.elim (fun h_ => ((Kd.R_mono (ok' := fun k_ => ((fun _ => True)) k_ ∧ some k_ ≠ (u3 : Value).ownBlock) (Kd.R_apart' (HO171.out) (Kd.S_typed HO_3.out) (by decide)) (fun k_ hk => ⟨trivial, hk.2⟩))).1 k_ h_.symm) (fun h_ => ((Kd.R_mono (ok' := fun k_ => ((fun _ => True)) k_ ∧ some k_ ≠ (u3 : Value).ownBlock) (Kd.R_apart' (HO174.out) (Kd.S_typed HO_3.out) (by decide)) (fun k_ hk => ⟨trivial, hk.2⟩))).1 k_ h_.symm)) ?aF ?aO ?aB ?aS ?aL ?_
        (case aP => exact k57_mkM _ _ _ (⟨(zaf l0 x4_1).f0, (zaf l0 x4_1).f1, (zaf l0 x4_1).f2, (⟨(zaf l0 x4_1).f3.f0, (zaf l0 x4_1).f3.f1, (zaf l0 x4_1).f3.f2, (zaf l0 x4_1).f3.f3, y169, (zaf l0 x4_1).f3.f5, (zaf l0 x4_1).f3.f6, y172⟩ : S55), (zaf l0 x4_1).f4⟩ : S57) (Kd.R_mono (Kd.R_tight rfl (Kd.R_mono (ok' := fun k_ => ((fun _ => True)) k_ ∧ some k_ ≠ (u3 : Value).ownBlock) (Kd.R_apart' (HO171.out) (Kd.S_typed HO_3.out) (by decide)) (fun k_ hk => ⟨trivial, hk.2⟩))) (fun _ h_ => Or.inl h_)) (Kd.R_mono (Kd.R_tight rfl (Kd.R_mono (ok' := fun k_ => ((fun _ => True)) k_ ∧ some k_ ≠ (u3 : Value).ownBlock) (Kd.R_apart' (HO174.out) (Kd.S_typed HO_3.out) (by decide)) (fun k_ hk => ⟨trivial, hk.2⟩))) (fun _ h_ => Or.inr (h_))))
        (case aB => exact (by repeat (first | (with_reducible first | exact HB.out | apply zae | apply zab | apply zad | refine zaj ?_ GE168.out | refine zaj ?_ GE175.out) | exact HB.out)))
        (case aF => exact (fun _ _ => trivial))
        (case aO => exact (by (with_reducible repeat (first | apply Kd.S_alloc | apply Kd.S_drewN | apply Kd.S_drew)); exact Kd.S_mono HO_3.out (fun k_ hk => ⟨trivial, fun e_ => e_.elim (fun h_ => hk.1 h_) (fun h_ => hk.2 h_)⟩)))
        (case aS => exact (zak (by repeat (first | (with_reducible first | exact HB.out | apply zae | apply zab | apply zad | refine zaj ?_ GE168.out | refine zaj ?_ GE175.out) | exact HB.out))))
        (case aL => have := LMc6.out; omega)
        intro v181 w29 ho hb hg hat
        rw [← Ny180.out] at ho
        have n0_ := Aside0.mk (zbj (g := gb168) (o := .cells #[.int .i64 ((zaf l0 x4_1).f3.f0), .string ((zaf l0 x4_1).f3.f1), .string ((zaf l0 x4_1).f3.f2), .string ((zaf l0 x4_1).f3.f3), .slice A167_7 ((zaf l0 x4_1).f3.f4).length c167_7, .int .i64 ((zaf l0 x4_1).f3.f5), .int .i64 ((zaf l0 x4_1).f3.f6), .slice A167_10 ((zaf l0 x4_1).f3.f7).length c167_10] 34 (0, 0)) (by (with_reducible repeat (first | refine zah ?_ _ | refine zai ?_ | refine zag ?_ _)); exact BK168.out) hg (Kd.S_ne HO_3.out BK168.out (by decide)))
        have n1_ := Aside0.mk (zbj (g := gb175) (o := .cells #[.int .i64 ((zaf l0 x4_1).f3.f0), .string ((zaf l0 x4_1).f3.f1), .string ((zaf l0 x4_1).f3.f2), .string ((zaf l0 x4_1).f3.f3), .slice Ao18 y169.length co18, .int .i64 ((zaf l0 x4_1).f3.f5), .int .i64 ((zaf l0 x4_1).f3.f6), .slice Ao17 y172.length co17] 55 (0, 0)) (by (with_reducible repeat (first | refine zah ?_ _ | refine zai ?_ | refine zag ?_ _)); exact BK175.out) hg (Kd.S_ne HO_3.out BK175.out (by decide)))
        have n2_ := Aside0.mk (hb)
        have n3_ := Aside0.mk (ho)
        clear BK168
        clear BK175
        clear HB
        clear HO_3
        clear HO171
        clear HO174
        have BK168 := n0_
        have BK175 := n1_
        have HB := n2_
        have HO182 := n3_
        clear n0_ n1_ n2_ n3_
        clear ho hb hg hat
        refine hK.out _ _ ⟨(zaa BK175.out 0).trans rfl, (zaa BK175.out 1).trans rfl, (zaa BK175.out 2).trans rfl, (zaa BK175.out 3).trans rfl, (zaa BK175.out 4).trans rfl, (zaa BK175.out 5).trans rfl, (zaa BK175.out 6).trans rfl, (zaa BK175.out 7).trans rfl, ((HB.out.cell (World.block_lt_of_cell? w _ hw176_0)).trans hw176_0), ((HB.out.cell (World.block_lt_of_cell? w _ hw176_1)).trans hw176_1), ((HB.out.cell (World.block_lt_of_cell? w _ hw176_2)).trans hw176_2), ((HB.out.cell (World.block_lt_of_cell? w _ hw176_3)).trans hw176_3), ((HB.out.cell (World.block_lt_of_cell? w _ hw176_4)).trans hw176_4), ((HB.out.cell (World.block_lt_of_cell? w _ hw176_5)).trans hw176_5), ((HB.out.cell (World.block_lt_of_cell? w _ hw176_6)).trans hw176_6), ((HB.out.cell (World.block_lt_of_cell? w _ hw176_7)).trans hw176_7), ((HB.out.cell (World.block_lt_of_cell? w _ hw176_8)).trans hw176_8), ((HB.out.cell (World.block_lt_of_cell? w _ hw176_9)).trans hw176_9), ((HB.out.cell (World.block_lt_of_cell? w _ hw176_10)).trans hw176_10), ((HB.out.cell (World.block_lt_of_cell? w _ hw176_11)).trans hw176_11), ((HB.out.cell (World.block_lt_of_cell? w _ hw177_0)).trans hw177_0), ((HB.out.cell (World.block_lt_of_cell? w _ hw177_1)).trans hw177_1), ((HB.out.cell (World.block_lt_of_cell? w _ hw177_2)).trans hw177_2), ((HB.out.cell (World.block_lt_of_cell? w _ hw177_3)).trans hw177_3), ((HB.out.cell (World.block_lt_of_cell? w _ hw177_4)).trans hw177_4), ((HB.out.cell (World.block_lt_of_cell? w _ hw177_5)).trans hw177_5), ((HB.out.cell (World.block_lt_of_cell? w _ hw177_6)).trans hw177_6), ((HB.out.cell (World.block_lt_of_cell? w _ hw177_7)).trans hw177_7), ((HB.out.cell (World.block_lt_of_cell? w _ hw177_8)).trans hw177_8), ((HB.out.cell (World.block_lt_of_cell? w _ hw177_9)).trans hw177_9), ((HB.out.cell (World.block_lt_of_cell? w _ hw177_10)).trans hw177_10), ((HB.out.cell (World.block_lt_of_cell? w _ hw177_11)).trans hw177_11), ((HB.out.cell (World.block_lt_of_cell? w _ hw178_0)).trans hw178_0), ((HB.out.cell (World.block_lt_of_cell? w _ hw178_1)).trans hw178_1), ((HB.out.cell (World.block_lt_of_cell? w _ hw178_2)).trans hw178_2), ((HB.out.cell (World.block_lt_of_cell? w _ hw178_3)).trans hw178_3), ((HB.out.cell (World.block_lt_of_cell? w _ hw178_4)).trans hw178_4), ((HB.out.cell (World.block_lt_of_cell? w _ hw178_5)).trans hw178_5), ((HB.out.cell (World.block_lt_of_cell? w _ hw178_6)).trans hw178_6), ((HB.out.cell (World.block_lt_of_cell? w _ hw178_7)).trans hw178_7), ((HB.out.cell (World.block_lt_of_cell? w _ hw178_8)).trans hw178_8), ((HB.out.cell (World.block_lt_of_cell? w _ hw178_9)).trans hw178_9), ((HB.out.cell (World.block_lt_of_cell? w _ hw178_10)).trans hw178_10), ((HB.out.cell (World.block_lt_of_cell? w _ hw178_11)).trans hw178_11), ((HB.out.cell (World.block_lt_of_cell? w _ hw179_0)).trans hw179_0), ((HB.out.cell (World.block_lt_of_cell? w _ hw179_1)).trans hw179_1), ((HB.out.cell (World.block_lt_of_cell? w _ hw179_2)).trans hw179_2), ((HB.out.cell (World.block_lt_of_cell? w _ hw179_3)).trans hw179_3), ((HB.out.cell (World.block_lt_of_cell? w _ hw179_4)).trans hw179_4), ((HB.out.cell (World.block_lt_of_cell? w _ hw179_5)).trans hw179_5), ((HB.out.cell (World.block_lt_of_cell? w _ hw179_6)).trans hw179_6), ((HB.out.cell (World.block_lt_of_cell? w _ hw179_7)).trans hw179_7), ((HB.out.cell (World.block_lt_of_cell? w _ hw179_8)).trans hw179_8), ((HB.out.cell (World.block_lt_of_cell? w _ hw179_9)).trans hw179_9), ((HB.out.cell (World.block_lt_of_cell? w _ hw179_10)).trans hw179_10), ((HB.out.cell (World.block_lt_of_cell? w _ hw179_11)).trans hw179_11)⟩ (fun hHeld => ?_)
        clear hK K
        refine norm_ (a' := ?_) ?_ ?_
        rotate_left
        ·
         show Act.put _ (some 61) _ = _
         simp only [Act.put, List.setIfInBounds_toArray, List.set_cons_zero, List.set_cons_succ, i64_w, i32_w]
         rfl
        refine pure_ (i := 25) (N := some 3) (v := ?_) (a' := ?_) #[true, true, true, true, true, true, true, true, true, true, true, true, true, true, true, true, true, true, true, true, true, true, true, true, true, true] rfl rfl (zap HT_.out (by kernel_rfl)) (fun _ _ _ h => h) (Or.inl ⟨by rfl, ?_⟩) ?_ ?_
        rotate_left
        ·
         intro w'
         go_simp
         with_reducible rfl
        rotate_left
        ·
         simp only [Act.put, List.setIfInBounds_toArray, List.set_cons_zero, List.set_cons_succ, i64_w, i32_w]
         rfl
        refine done_ (done_of HT_.out (by kernel_rfl)) ?_
        try go_wp2
        go_roundg k1
        case measure => have := HK1.out; omega
        case rel => exact ⟨(y180), (wrap64 (x4_1 + 1)), (by first | rfl | (simp; done) | (simp [*]; done)), H', ⟨by have := HK1.out; omega⟩, ⟨by (with_reducible repeat (first | apply Kd.S_alloc | apply Kd.S_drewN | apply Kd.S_drew)); exact HO182.out⟩, ⟨by repeat (first | (with_reducible first | exact HB.out | apply zae | apply zab | apply zad | refine zaj ?_ GE168.out | refine zaj ?_ GE175.out) | exact HB.out)⟩⟩
       ·
        rw [if_neg c6] at H
        exact absurd H (by simp)
      ·
       rw [if_neg c5] at H
       exact absurd H (by simp)
     ·
      rw [if_neg c4] at H
      exact absurd H (by simp)
    ·
     rw [if_neg c3] at H
     exact absurd H (by simp)
   ·
    rw [if_neg c2] at H
    have c2b0 : decide (x4_1 < (l0.length : Int)) = false := decide_eq_false c2
    clear c2
    obtain rfl := Option.some.inj H
    go_wp2
    go_ret
    exact ⟨_, by first | rfl | (simp [zal, zam] <;> rfl) | (simp [*, zal, zam] <;> rfl), by (with_reducible repeat (first | apply Kd.S_alloc | apply Kd.S_drewN | apply Kd.S_drew)); exact HO_3.out, by repeat (first | (with_reducible first | exact HB.out | apply zae | apply zab | apply zad) | exact HB.out)⟩

end Go.Proofs.YtdmlgligljagoaaDoor.PS

set_option linter.unusedVariables false
set_option linter.unusedSimpArgs false
namespace Go.Proofs.YtdmlgligljagoaaDoor
open Go.RowKit Go.Proofs.YtdmlgligljagoaaDoorW.PrintWords PS

def toldS (s : S34) : S55 := ⟨s.f0, s.f1, s.f2, s.f3, s.f4, s.f5, s.f6, s.f7⟩
def toldC (c : S36) : S57 := ⟨c.f0, c.f1, c.f2, toldS c.f3, c.f4⟩
/-- lists short enough for the machine -/
def Short (l : List S36) : Prop := l.length ≤ 4294967296 ∧ ∀ c ∈ l, c.f3.f4.length ≤ 4294967296 ∧ c.f3.f7.length ≤ 4294967296
theorem rdK_get (l : List S36) (i : Nat) (h : i < l.length) : zaf l (i : Int) = l[i]'h := by unfold zaf; simp [h]
theorem told_go (l : List S36) (h : Short l) : ∀ d i (acc : List S57), i + d = l.length → acc.length = i →
    Ev (fun k => cofferlaw22_told.l0 k l acc (i : Int)) (acc ++ (l.drop i).map toldC) := by
  obtain ⟨h0, h1⟩ := h
  intro d
  induction d with
  | zero =>
    intro i acc hi ha
    refine Ev.step (f := fun _ => some _) (fun k => ?_) (Ev.now _)
    rw [cofferlaw22_told.l0, if_neg (by omega), List.drop_of_length_le (by omega)]
    simp
  | succ d ih =>
    intro i acc hi ha
    have hlt : i < l.length := by omega
    have hr := rdK_get l i hlt
    obtain ⟨h4, h7⟩ := h1 _ (List.getElem_mem hlt)
    rw [List.drop_eq_getElem_cons hlt, List.map_cons]
    have hn := ih (i + 1) (acc ++ [toldC (l[i]'hlt)]) (by omega) (by simp; omega)
    rw [List.append_assoc] at hn
    refine Ev.step (fun k => ?_) hn
    rw [cofferlaw22_told.l0, if_pos (by omega), if_pos (by omega), hr, if_pos (by simp; omega), if_pos (by simp; omega), if_pos (by omega), w64s (by omega)]
    rfl
theorem told_ev (l : List S36) (h : Short l) : Ev (fun k => cofferlaw22_told.f k l) (l.map toldC) := by
  have := told_go l h l.length 0 [] (by omega) rfl
  rw [List.drop_zero, List.nil_append] at this
  exact this
theorem same_is (l m : List S57) (h : ∀ c ∈ l, c.f3.f4.length ≤ 4294967296 ∧ c.f3.f7.length ≤ 4294967296) : cofferref22_Same.f l m = some (decide (l = m)) := by
  unfold cofferref22_Same.f
  rw [if_pos (fun c hc => by have := h c hc; omega)]
theorem told_short {l : List S36} (h : Short l) : ∀ c ∈ l.map toldC, c.f3.f4.length ≤ 4294967296 ∧ c.f3.f7.length ≤ 4294967296 := by
  intro c hc
  obtain ⟨x, hx, rfl⟩ := List.mem_map.1 hc
  exact h.2 x hx
theorem clean_short {l : List S36} (h : ∀ c ∈ l, Clean 8192 c) (hn : l.length ≤ 1024) : Short l :=
  ⟨by omega, fun c hc => by have h4 := (h c hc).st.n4; have h7 := (h c hc).st.n7; omega⟩
theorem parse_short {s : List UInt8} {l : List S36} (h : parseV s = (l, 0)) : Short l := by
  obtain ⟨h1, h2⟩ := parse_clean h
  exact clean_short h1 h2
end Go.Proofs.YtdmlgligljagoaaDoor

namespace Go.Proofs.YtdmlgligljagoaaDoor.PS
open Go.RowKit Go.Proofs.YtdmlgligljagoaaDoorW.PrintWords Go.Proofs.YtdmlgligljagoaaDoorW.PrintLast Go.Proofs.YtdmlgligljagoaaDoorW.PrintMore
attribute [local go_sem] max2_int min2_int max_two min_two zbg zbh max_four min_four   -- for this text's walks alone
set_option linter.unusedVariables false
set_option linter.unusedSimpArgs false

/-! ### cofferlaw22_first: function 16 -/
def cofferlaw22_first.j0 : Nat → List (S36) → Bool → Option (Bool)
 | 0, _, _ => none
 | k + 1, x1, x58 => if x58 = true then (some false) else ((cofferlaw22_told.f k x1).bind fun t237 => ((cofferref22_Same.f t237 (([(⟨2, 0, 0, (⟨1, (⟨#[97]⟩ : ByteArray), (⟨#[]⟩ : ByteArray), (⟨#[]⟩ : ByteArray), ([] : List (S38)), 0, 0, ([] : List Int)⟩ : S55), (⟨#[]⟩ : ByteArray)⟩ : S57), (⟨2, 0, 0, (⟨3, (⟨#[97]⟩ : ByteArray), (⟨#[107]⟩ : ByteArray), (⟨#[100]⟩ : ByteArray), (([(⟨(⟨#[116]⟩ : ByteArray), (⟨#[120]⟩ : ByteArray)⟩ : S38)] : List (S38))), 0, 0, ([] : List Int)⟩ : S55), (⟨#[]⟩ : ByteArray)⟩ : S57), (⟨2, 0, 0, (⟨18, (⟨#[]⟩ : ByteArray), (⟨#[]⟩ : ByteArray), (⟨#[]⟩ : ByteArray), ([] : List (S38)), 0, 3, (([0, 2] : List Int))⟩ : S55), (⟨#[]⟩ : ByteArray)⟩ : S57)] : List (S57)))).bind fun t240 => (if t240 = true then (some true) else (some false))))
def cofferlaw22_first.f (k : Nat)  : Option (Bool) := (script_Parse.f k (⟨#[109, 97, 107, 101, 32, 34, 97, 34, 10, 112, 117, 116, 32, 34, 97, 34, 32, 34, 107, 34, 32, 34, 100, 34, 32, 34, 116, 34, 32, 34, 120, 34, 10, 35, 10, 99, 114, 97, 115, 104, 32, 51, 32, 48, 32, 50]⟩ : ByteArray)).bind fun bt209 => ((script_Parse.f k (⟨#[102, 97, 108, 108, 32, 48, 51]⟩ : ByteArray)).bind fun bt213 => ((script_Print.f (([(⟨2, 0, 0, (⟨17, (⟨#[]⟩ : ByteArray), (⟨#[]⟩ : ByteArray), (⟨#[]⟩ : ByteArray), ([] : List (S38)), 0, (-1), ([] : List Int)⟩ : S34), (⟨#[]⟩ : ByteArray)⟩ : S36), (⟨4, 0, 0, (⟨0, (⟨#[]⟩ : ByteArray), (⟨#[]⟩ : ByteArray), (⟨#[]⟩ : ByteArray), ([] : List (S38)), 0, 0, ([] : List Int)⟩ : S34), (⟨#[]⟩ : ByteArray)⟩ : S36)] : List (S36)))).bind fun bt220 => ((script_Print.f (([(⟨6, 0, 0, (⟨0, (⟨#[]⟩ : ByteArray), (⟨#[]⟩ : ByteArray), (⟨#[]⟩ : ByteArray), ([] : List (S38)), 0, 0, ([] : List Int)⟩ : S34), (⟨#[]⟩ : ByteArray)⟩ : S36)] : List (S36)))).bind fun bt225 => (if bt209.2 = 0 then (if bt213.2 = 110 then (if bt220.2 = 0 then (if bt220.1.toList = ([102, 97, 108, 108, 32, 45, 49, 10, 100, 105, 103, 101, 115, 116, 10] : List UInt8) then (if bt225.2 = 110 then (if (bt209.1.length : Int) = 3 then ((script_Quote.f k (⟨#[0, 34, 97]⟩ : ByteArray)).bind fun t227 => (cofferlaw22_first.j0 k bt209.1 (t227.toList != ([34, 92, 120, 48, 48, 92, 34, 97, 34] : List UInt8)))) else (cofferlaw22_first.j0 k bt209.1 true)) else (cofferlaw22_first.j0 k bt209.1 true)) else (cofferlaw22_first.j0 k bt209.1 true)) else (cofferlaw22_first.j0 k bt209.1 true)) else (cofferlaw22_first.j0 k bt209.1 true)) else (cofferlaw22_first.j0 k bt209.1 true)))))
theorem cofferlaw22_first.mono_l : ∀ k, (∀ y0 y1, LeO (cofferlaw22_first.j0 k y0 y1) (cofferlaw22_first.j0 (k + 1) y0 y1))
 | 0 => fun _ _ r h => by simp [cofferlaw22_first.j0] at h
 | k + 1 => by
  have ih0 := cofferlaw22_first.mono_l k
  ·
   intro y0 y1
   unfold cofferlaw22_first.j0
   repeat' first
   | (with_reducible exact ih0 _ _)
   | (with_reducible exact cofferlaw22_told.mono _ _)
   | (with_reducible exact script_Parse.mono _ _)
   | (with_reducible exact script_Quote.mono _ _)
   | (with_reducible exact LeO.refl _)
   | (with_reducible exact LeO.none _)
   | (with_reducible refine LeO.ite ?_ ?_)
   | (with_reducible refine LeO.bind ?_ (fun _ => ?_))
   | exact ih0 _ _
   | exact cofferlaw22_told.mono _ _
   | exact script_Parse.mono _ _
   | exact script_Quote.mono _ _
   | exact LeO.none _
   | refine LeO.ite ?_ ?_
   | refine LeO.bind ?_ (fun _ => ?_)
theorem cofferlaw22_first.mono : ∀ k, LeO (cofferlaw22_first.f k ) (cofferlaw22_first.f (k + 1) ) := by
 intro  k
 have ih0 := cofferlaw22_first.mono_l k
 unfold cofferlaw22_first.f
 repeat' first
   | (with_reducible exact ih0 _ _)
   | (with_reducible exact cofferlaw22_told.mono _ _)
   | (with_reducible exact script_Parse.mono _ _)
   | (with_reducible exact script_Quote.mono _ _)
   | (with_reducible exact LeO.refl _)
   | (with_reducible exact LeO.none _)
   | (with_reducible refine LeO.ite ?_ ?_)
   | (with_reducible refine LeO.bind ?_ (fun _ => ?_))
   | exact ih0 _ _
   | exact cofferlaw22_told.mono _ _
   | exact script_Parse.mono _ _
   | exact script_Quote.mono _ _
   | exact LeO.none _
   | refine LeO.ite ?_ ?_
   | refine LeO.bind ?_ (fun _ => ?_)
set_option maxHeartbeats 8000000 in
set_option maxRecDepth 100000 in
theorem cofferlaw22_first.calls (k : Nat)  (r : Bool) (w : World) (hT : Tab w) (h : cofferlaw22_first.f k  = some r) :
  Calls Tryd.prog 16 #[] w fun e w' => e = .returned (.bool r) ∧ Below w.heap.size w w' := by
 have hu34 := Tryd.underlying34
 have hu36 := Tryd.underlying36
 have hu55 := Tryd.underlying55
 have hu57 := Tryd.underlying57
 have hu38 := Tryd.underlying38
 have HB := Aside0.mk (Below.refl w.heap.size w)
 have HT := Aside0.mk hT
 clear hT
 have H : ((script_Parse.f k (⟨#[109, 97, 107, 101, 32, 34, 97, 34, 10, 112, 117, 116, 32, 34, 97, 34, 32, 34, 107, 34, 32, 34, 100, 34, 32, 34, 116, 34, 32, 34, 120, 34, 10, 35, 10, 99, 114, 97, 115, 104, 32, 51, 32, 48, 32, 50]⟩ : ByteArray)).bind fun bt209 => ((script_Parse.f k (⟨#[102, 97, 108, 108, 32, 48, 51]⟩ : ByteArray)).bind fun bt213 => ((script_Print.f (([(⟨2, 0, 0, (⟨17, (⟨#[]⟩ : ByteArray), (⟨#[]⟩ : ByteArray), (⟨#[]⟩ : ByteArray), ([] : List (S38)), 0, (-1), ([] : List Int)⟩ : S34), (⟨#[]⟩ : ByteArray)⟩ : S36), (⟨4, 0, 0, (⟨0, (⟨#[]⟩ : ByteArray), (⟨#[]⟩ : ByteArray), (⟨#[]⟩ : ByteArray), ([] : List (S38)), 0, 0, ([] : List Int)⟩ : S34), (⟨#[]⟩ : ByteArray)⟩ : S36)] : List (S36)))).bind fun bt220 => ((script_Print.f (([(⟨6, 0, 0, (⟨0, (⟨#[]⟩ : ByteArray), (⟨#[]⟩ : ByteArray), (⟨#[]⟩ : ByteArray), ([] : List (S38)), 0, 0, ([] : List Int)⟩ : S34), (⟨#[]⟩ : ByteArray)⟩ : S36)] : List (S36)))).bind fun bt225 => (if bt209.2 = 0 then (if bt213.2 = 110 then (if bt220.2 = 0 then (if bt220.1.toList = ([102, 97, 108, 108, 32, 45, 49, 10, 100, 105, 103, 101, 115, 116, 10] : List UInt8) then (if bt225.2 = 110 then (if (bt209.1.length : Int) = 3 then ((script_Quote.f k (⟨#[0, 34, 97]⟩ : ByteArray)).bind fun t227 => (cofferlaw22_first.j0 k bt209.1 (t227.toList != ([34, 92, 120, 48, 48, 92, 34, 97, 34] : List UInt8)))) else (cofferlaw22_first.j0 k bt209.1 true)) else (cofferlaw22_first.j0 k bt209.1 true)) else (cofferlaw22_first.j0 k bt209.1 true)) else (cofferlaw22_first.j0 k bt209.1 true)) else (cofferlaw22_first.j0 k bt209.1 true)) else (cofferlaw22_first.j0 k bt209.1 true)))))) = some r := h
 clear h
 replace H := Option.bind_eq_some_iff.mp H
 obtain ⟨⟨t209, t210⟩, A10, H⟩ := H
 replace H : ((script_Parse.f k (⟨#[102, 97, 108, 108, 32, 48, 51]⟩ : ByteArray)).bind fun bt213 => ((script_Print.f (([(⟨2, 0, 0, (⟨17, (⟨#[]⟩ : ByteArray), (⟨#[]⟩ : ByteArray), (⟨#[]⟩ : ByteArray), ([] : List (S38)), 0, (-1), ([] : List Int)⟩ : S34), (⟨#[]⟩ : ByteArray)⟩ : S36), (⟨4, 0, 0, (⟨0, (⟨#[]⟩ : ByteArray), (⟨#[]⟩ : ByteArray), (⟨#[]⟩ : ByteArray), ([] : List (S38)), 0, 0, ([] : List Int)⟩ : S34), (⟨#[]⟩ : ByteArray)⟩ : S36)] : List (S36)))).bind fun bt220 => ((script_Print.f (([(⟨6, 0, 0, (⟨0, (⟨#[]⟩ : ByteArray), (⟨#[]⟩ : ByteArray), (⟨#[]⟩ : ByteArray), ([] : List (S38)), 0, 0, ([] : List Int)⟩ : S34), (⟨#[]⟩ : ByteArray)⟩ : S36)] : List (S36)))).bind fun bt225 => (if t210 = 0 then (if bt213.2 = 110 then (if bt220.2 = 0 then (if bt220.1.toList = ([102, 97, 108, 108, 32, 45, 49, 10, 100, 105, 103, 101, 115, 116, 10] : List UInt8) then (if bt225.2 = 110 then (if (t209.length : Int) = 3 then ((script_Quote.f k (⟨#[0, 34, 97]⟩ : ByteArray)).bind fun t227 => (cofferlaw22_first.j0 k t209 (t227.toList != ([34, 92, 120, 48, 48, 92, 34, 97, 34] : List UInt8)))) else (cofferlaw22_first.j0 k t209 true)) else (cofferlaw22_first.j0 k t209 true)) else (cofferlaw22_first.j0 k t209 true)) else (cofferlaw22_first.j0 k t209 true)) else (cofferlaw22_first.j0 k t209 true)) else (cofferlaw22_first.j0 k t209 true))))) = some r := H
 have A1 := Aside0.mk A10
 clear A10
 replace H := Option.bind_eq_some_iff.mp H
 obtain ⟨⟨t213, t214⟩, A20, H⟩ := H
 replace H : ((script_Print.f (([(⟨2, 0, 0, (⟨17, (⟨#[]⟩ : ByteArray), (⟨#[]⟩ : ByteArray), (⟨#[]⟩ : ByteArray), ([] : List (S38)), 0, (-1), ([] : List Int)⟩ : S34), (⟨#[]⟩ : ByteArray)⟩ : S36), (⟨4, 0, 0, (⟨0, (⟨#[]⟩ : ByteArray), (⟨#[]⟩ : ByteArray), (⟨#[]⟩ : ByteArray), ([] : List (S38)), 0, 0, ([] : List Int)⟩ : S34), (⟨#[]⟩ : ByteArray)⟩ : S36)] : List (S36)))).bind fun bt220 => ((script_Print.f (([(⟨6, 0, 0, (⟨0, (⟨#[]⟩ : ByteArray), (⟨#[]⟩ : ByteArray), (⟨#[]⟩ : ByteArray), ([] : List (S38)), 0, 0, ([] : List Int)⟩ : S34), (⟨#[]⟩ : ByteArray)⟩ : S36)] : List (S36)))).bind fun bt225 => (if t210 = 0 then (if t214 = 110 then (if bt220.2 = 0 then (if bt220.1.toList = ([102, 97, 108, 108, 32, 45, 49, 10, 100, 105, 103, 101, 115, 116, 10] : List UInt8) then (if bt225.2 = 110 then (if (t209.length : Int) = 3 then ((script_Quote.f k (⟨#[0, 34, 97]⟩ : ByteArray)).bind fun t227 => (cofferlaw22_first.j0 k t209 (t227.toList != ([34, 92, 120, 48, 48, 92, 34, 97, 34] : List UInt8)))) else (cofferlaw22_first.j0 k t209 true)) else (cofferlaw22_first.j0 k t209 true)) else (cofferlaw22_first.j0 k t209 true)) else (cofferlaw22_first.j0 k t209 true)) else (cofferlaw22_first.j0 k t209 true)) else (cofferlaw22_first.j0 k t209 true)))) = some r := H
 have A2 := Aside0.mk A20
 clear A20
 obtain ⟨y217, hy217⟩ : ∃ y_ : List (S36), y_ = (([(⟨2, 0, 0, (⟨17, (⟨#[]⟩ : ByteArray), (⟨#[]⟩ : ByteArray), (⟨#[]⟩ : ByteArray), ([] : List (S38)), 0, (-1), ([] : List Int)⟩ : S34), (⟨#[]⟩ : ByteArray)⟩ : S36), (⟨4, 0, 0, (⟨0, (⟨#[]⟩ : ByteArray), (⟨#[]⟩ : ByteArray), (⟨#[]⟩ : ByteArray), ([] : List (S38)), 0, 0, ([] : List Int)⟩ : S34), (⟨#[]⟩ : ByteArray)⟩ : S36)] : List (S36))) := ⟨_, rfl⟩
 replace H : ((script_Print.f y217).bind fun bt220 => ((script_Print.f (([(⟨6, 0, 0, (⟨0, (⟨#[]⟩ : ByteArray), (⟨#[]⟩ : ByteArray), (⟨#[]⟩ : ByteArray), ([] : List (S38)), 0, 0, ([] : List Int)⟩ : S34), (⟨#[]⟩ : ByteArray)⟩ : S36)] : List (S36)))).bind fun bt225 => (if t210 = 0 then (if t214 = 110 then (if bt220.2 = 0 then (if bt220.1.toList = ([102, 97, 108, 108, 32, 45, 49, 10, 100, 105, 103, 101, 115, 116, 10] : List UInt8) then (if bt225.2 = 110 then (if (t209.length : Int) = 3 then ((script_Quote.f k (⟨#[0, 34, 97]⟩ : ByteArray)).bind fun t227 => (cofferlaw22_first.j0 k t209 (t227.toList != ([34, 92, 120, 48, 48, 92, 34, 97, 34] : List UInt8)))) else (cofferlaw22_first.j0 k t209 true)) else (cofferlaw22_first.j0 k t209 true)) else (cofferlaw22_first.j0 k t209 true)) else (cofferlaw22_first.j0 k t209 true)) else (cofferlaw22_first.j0 k t209 true)) else (cofferlaw22_first.j0 k t209 true)))) = some r := by first | (rw [hy217]; with_reducible exact H) | (have H2_ := (Option.bind_some _ _).symm.trans H; rw [hy217]; with_reducible exact H2_) | (have H2_ := (Option.bind_some _ _).symm.trans H; with_reducible exact H2_) | with_reducible exact H | (rw [hy217]; exact H) | exact H
 have Ny217 := Aside0.mk hy217
 clear hy217
 replace H := Option.bind_eq_some_iff.mp H
 obtain ⟨⟨t220, t221⟩, A30, H⟩ := H
 replace H : ((script_Print.f (([(⟨6, 0, 0, (⟨0, (⟨#[]⟩ : ByteArray), (⟨#[]⟩ : ByteArray), (⟨#[]⟩ : ByteArray), ([] : List (S38)), 0, 0, ([] : List Int)⟩ : S34), (⟨#[]⟩ : ByteArray)⟩ : S36)] : List (S36)))).bind fun bt225 => (if t210 = 0 then (if t214 = 110 then (if t221 = 0 then (if t220.toList = ([102, 97, 108, 108, 32, 45, 49, 10, 100, 105, 103, 101, 115, 116, 10] : List UInt8) then (if bt225.2 = 110 then (if (t209.length : Int) = 3 then ((script_Quote.f k (⟨#[0, 34, 97]⟩ : ByteArray)).bind fun t227 => (cofferlaw22_first.j0 k t209 (t227.toList != ([34, 92, 120, 48, 48, 92, 34, 97, 34] : List UInt8)))) else (cofferlaw22_first.j0 k t209 true)) else (cofferlaw22_first.j0 k t209 true)) else (cofferlaw22_first.j0 k t209 true)) else (cofferlaw22_first.j0 k t209 true)) else (cofferlaw22_first.j0 k t209 true)) else (cofferlaw22_first.j0 k t209 true))) = some r := H
 have A3 := Aside0.mk A30
 clear A30
 obtain ⟨y222, hy222⟩ : ∃ y_ : List (S36), y_ = (([(⟨6, 0, 0, (⟨0, (⟨#[]⟩ : ByteArray), (⟨#[]⟩ : ByteArray), (⟨#[]⟩ : ByteArray), ([] : List (S38)), 0, 0, ([] : List Int)⟩ : S34), (⟨#[]⟩ : ByteArray)⟩ : S36)] : List (S36))) := ⟨_, rfl⟩
 replace H : ((script_Print.f y222).bind fun bt225 => (if t210 = 0 then (if t214 = 110 then (if t221 = 0 then (if t220.toList = ([102, 97, 108, 108, 32, 45, 49, 10, 100, 105, 103, 101, 115, 116, 10] : List UInt8) then (if bt225.2 = 110 then (if (t209.length : Int) = 3 then ((script_Quote.f k (⟨#[0, 34, 97]⟩ : ByteArray)).bind fun t227 => (cofferlaw22_first.j0 k t209 (t227.toList != ([34, 92, 120, 48, 48, 92, 34, 97, 34] : List UInt8)))) else (cofferlaw22_first.j0 k t209 true)) else (cofferlaw22_first.j0 k t209 true)) else (cofferlaw22_first.j0 k t209 true)) else (cofferlaw22_first.j0 k t209 true)) else (cofferlaw22_first.j0 k t209 true)) else (cofferlaw22_first.j0 k t209 true))) = some r := by first | (rw [hy222]; with_reducible exact H) | (have H2_ := (Option.bind_some _ _).symm.trans H; rw [hy222]; with_reducible exact H2_) | (have H2_ := (Option.bind_some _ _).symm.trans H; with_reducible exact H2_) | with_reducible exact H | (rw [hy222]; exact H) | exact H
 have Ny222 := Aside0.mk hy222
 clear hy222
 replace H := Option.bind_eq_some_iff.mp H
 obtain ⟨⟨t225, t226⟩, A40, H⟩ := H
 replace H : (if t210 = 0 then (if t214 = 110 then (if t221 = 0 then (if t220.toList = ([102, 97, 108, 108, 32, 45, 49, 10, 100, 105, 103, 101, 115, 116, 10] : List UInt8) then (if t226 = 110 then (if (t209.length : Int) = 3 then ((script_Quote.f k (⟨#[0, 34, 97]⟩ : ByteArray)).bind fun t227 => (cofferlaw22_first.j0 k t209 (t227.toList != ([34, 92, 120, 48, 48, 92, 34, 97, 34] : List UInt8)))) else (cofferlaw22_first.j0 k t209 true)) else (cofferlaw22_first.j0 k t209 true)) else (cofferlaw22_first.j0 k t209 true)) else (cofferlaw22_first.j0 k t209 true)) else (cofferlaw22_first.j0 k t209 true)) else (cofferlaw22_first.j0 k t209 true)) = some r := H
 have A4 := Aside0.mk A40
 clear A40
 have HC5 := Aside0.mk H
 clear H
 go_enter Tryd.func16, Tryd.ntmps16
 go_upto_region 5 with (first | ((with_reducible refine zaw (f := 18) rfl ?_); refine goesL_ (some 11) rfl rfl Tryd.func18 (by kernel_rfl) rfl #[.string (⟨#[109, 97, 107, 101, 32, 34, 97, 34, 10, 112, 117, 116, 32, 34, 97, 34, 32, 34, 107, 34, 32, 34, 100, 34, 32, 34, 116, 34, 32, 34, 120, 34, 10, 35, 10, 99, 114, 97, 115, 104, 32, 51, 32, 48, 32, 50]⟩ : ByteArray)] rfl (by (try simp only [List.map_toArray, List.map_cons, List.map_nil]); first | done | rfl | (simp only [List.length_drop, List.length_take]; rfl)) ?_; (with_reducible refine (script_Parse.calls k (⟨#[109, 97, 107, 101, 32, 34, 97, 34, 10, 112, 117, 116, 32, 34, 97, 34, 32, 34, 107, 34, 32, 34, 100, 34, 32, 34, 116, 34, 32, 34, 120, 34, 10, 35, 10, 99, 114, 97, 115, 104, 32, 51, 32, 48, 32, 50]⟩ : ByteArray) t209 t210 _ ?side1 A1.out).mono ?_); (case side1 => exact zay HT.out (by repeat (first | (with_reducible first | exact HB.out | apply zae | apply zab | apply zad) | exact HB.out))); rintro e w6 ⟨v211, rfl, ho0, hb⟩; refine ⟨_, rfl, ?_⟩; have n0_ := Aside0.mk (Kd.N_lower (Kd.N_mono (ok' := fun k_ => True) (Kd.S_N (Kd.S_bound ho0)) (fun k_ hk_ => trivial)) (zak (by repeat (first | (with_reducible first | exact HB.out | apply zae | apply zab | apply zad) | exact HB.out)))); have n1_ := Aside0.mk (zan (by repeat (first | (with_reducible first | exact HB.out | apply zae | apply zab | apply zad) | exact HB.out)) hb); clear HB; have HO212 := n0_; have HB := n1_; clear n0_ n1_; (try clear hb); (try clear hb2); (try clear hk); (try clear hi); (try clear ho0)) | ((with_reducible refine zaw (f := 18) rfl ?_); refine goesL_ (some 15) rfl rfl Tryd.func18 (by kernel_rfl) rfl #[.string (⟨#[102, 97, 108, 108, 32, 48, 51]⟩ : ByteArray)] rfl (by (try simp only [List.map_toArray, List.map_cons, List.map_nil]); first | done | rfl | (simp only [List.length_drop, List.length_take]; rfl)) ?_; (with_reducible refine (script_Parse.calls k (⟨#[102, 97, 108, 108, 32, 48, 51]⟩ : ByteArray) t213 t214 _ ?side1 A2.out).mono ?_); (case side1 => exact zay HT.out (by repeat (first | (with_reducible first | exact HB.out | apply zae | apply zab | apply zad) | exact HB.out))); rintro e w7 ⟨v215, rfl, ho0, hb⟩; refine ⟨_, rfl, ?_⟩; have n0_ := Aside0.mk (Kd.N_elder' (by (with_reducible repeat (first | apply Kd.N_alloc | apply Kd.N_drewN | apply Kd.N_drew)); exact HO212.out) (Kd.N_base (Kd.S_N ho0)) hb); have n1_ := Aside0.mk (Kd.N_lower (Kd.N_mono (ok' := fun k_ => some k_ ≠ (v211 : Value).ownBlock) (Kd.S_N (Kd.S_bound ho0)) (fun k_ hk_ => (Kd.fresh' (Kd.N_lt (by (with_reducible repeat (first | apply Kd.N_alloc | apply Kd.N_drewN | apply Kd.N_drew)); exact HO212.out)) k_ hk_.2.1))) (zak (by repeat (first | (with_reducible first | exact HB.out | apply zae | apply zab | apply zad) | exact HB.out)))); have n2_ := Aside0.mk (zan (by repeat (first | (with_reducible first | exact HB.out | apply zae | apply zab | apply zad) | exact HB.out)) hb); clear HO212; clear HB; have HO212 := n0_; have HO216 := n1_; have HB := n2_; clear n0_ n1_ n2_; (try clear hb); (try clear hb2); (try clear hk); (try clear hi); (try clear ho0)) | ((with_reducible refine zar (N := 22) rfl ?_); (try (refine zbk (by rfl) ?_; dsimp only)); refine Kd.N_lit k36 _ 36 ?hg (N' := 22) ?hd (xs := ([(⟨2, 0, 0, (⟨17, (⟨#[]⟩ : ByteArray), (⟨#[]⟩ : ByteArray), (⟨#[]⟩ : ByteArray), ([] : List (S38)), 0, (-1), ([] : List Int)⟩ : S34), (⟨#[]⟩ : ByteArray)⟩ : S36), (⟨4, 0, 0, (⟨0, (⟨#[]⟩ : ByteArray), (⟨#[]⟩ : ByteArray), (⟨#[]⟩ : ByteArray), ([] : List (S38)), 0, 0, ([] : List Int)⟩ : S34), (⟨#[]⟩ : ByteArray)⟩ : S36)] : List (S36))) (inner := [.int .i64 2, .int .i64 0, .int .i64 0, .int .i64 17, .string (⟨#[]⟩ : ByteArray), .string (⟨#[]⟩ : ByteArray), .string (⟨#[]⟩ : ByteArray), .slice none 0 0, .int .i64 0, .int .i64 (-1), .slice none 0 0, .string (⟨#[]⟩ : ByteArray), .int .i64 4, .int .i64 0, .int .i64 0, .int .i64 0, .string (⟨#[]⟩ : ByteArray), .string (⟨#[]⟩ : ByteArray), .string (⟨#[]⟩ : ByteArray), .slice none 0 0, .int .i64 0, .int .i64 0, .slice none 0 0, .string (⟨#[]⟩ : ByteArray)]) (ok := (fun k_ => some k_ ≠ (v211 : Value).ownBlock ∧ some k_ ≠ (v215 : Value).ownBlock)) (okp := (fun k_ => some k_ ≠ (v211 : Value).ownBlock ∧ some k_ ≠ (v215 : Value).ownBlock)) ?hr ?hp (fun _ hk => hk) ((show ∀ k_, w7.heap.size ≤ k_ → (fun k_ => some k_ ≠ (v211 : Value).ownBlock ∧ some k_ ≠ (v215 : Value).ownBlock) k_ from fun k_ hk => ⟨Kd.fresh' (Kd.N_lt (by (with_reducible repeat (first | apply Kd.N_alloc | apply Kd.N_drewN | apply Kd.N_drew)); exact HO212.out)) k_ hk, Kd.fresh' (Kd.N_lt (by (with_reducible repeat (first | apply Kd.N_alloc | apply Kd.N_drewN | apply Kd.N_drew)); exact HO216.out)) k_ hk⟩) _ (Nat.le_refl _)) (Below.refl _ _) (Nat.le_refl _) (by simp) ?_; (case hd => rfl); (case hg => rfl); (case hr => first | (go_simp; done) | (go_simp; rfl)); (case hp => exact (Reps.front (show Kd.FK k36 _ _ (⟨2, 0, 0, (⟨17, (⟨#[]⟩ : ByteArray), (⟨#[]⟩ : ByteArray), (⟨#[]⟩ : ByteArray), ([] : List (S38)), 0, (-1), ([] : List Int)⟩ : S34), (⟨#[]⟩ : ByteArray)⟩ : S36) [.int .i64 2, .int .i64 0, .int .i64 0, .int .i64 17, .string (⟨#[]⟩ : ByteArray), .string (⟨#[]⟩ : ByteArray), .string (⟨#[]⟩ : ByteArray), .slice none 0 0, .int .i64 0, .int .i64 (-1), .slice none 0 0, .string (⟨#[]⟩ : ByteArray)] from (k36_mkF _ _ (⟨2, 0, 0, (⟨17, (⟨#[]⟩ : ByteArray), (⟨#[]⟩ : ByteArray), (⟨#[]⟩ : ByteArray), ([] : List (S38)), 0, (-1), ([] : List Int)⟩ : S34), (⟨#[]⟩ : ByteArray)⟩ : S36) (Nat.le_refl _) (Kd.F_nil _ _ _) (Nat.le_refl _) (Kd.F_nil _ _ _))) rfl (Reps.front (show Kd.FK k36 _ _ (⟨4, 0, 0, (⟨0, (⟨#[]⟩ : ByteArray), (⟨#[]⟩ : ByteArray), (⟨#[]⟩ : ByteArray), ([] : List (S38)), 0, 0, ([] : List Int)⟩ : S34), (⟨#[]⟩ : ByteArray)⟩ : S36) [.int .i64 4, .int .i64 0, .int .i64 0, .int .i64 0, .string (⟨#[]⟩ : ByteArray), .string (⟨#[]⟩ : ByteArray), .string (⟨#[]⟩ : ByteArray), .slice none 0 0, .int .i64 0, .int .i64 0, .slice none 0 0, .string (⟨#[]⟩ : ByteArray)] from (k36_mkF _ _ (⟨4, 0, 0, (⟨0, (⟨#[]⟩ : ByteArray), (⟨#[]⟩ : ByteArray), (⟨#[]⟩ : ByteArray), ([] : List (S38)), 0, 0, ([] : List Int)⟩ : S34), (⟨#[]⟩ : ByteArray)⟩ : S36) (Nat.le_refl _) (Kd.F_nil _ _ _) (Nat.le_refl _) (Kd.F_nil _ _ _))) rfl (Reps.none _ _) rfl) rfl)); intro v218 w8 ho9 hb hg_ hnew_; clear hg_ hnew_; (first | rw [← Ny217.out] at ho9 | (simp only [Int.reduceToNat] at ho9; rw [← Ny217.out] at ho9)); have n0_ := Aside0.mk (Kd.N_elder' (by (with_reducible repeat (first | apply Kd.N_alloc | apply Kd.N_drewN | apply Kd.N_drew)); exact HO212.out) (Kd.N_base ho9) hb); have n1_ := Aside0.mk (Kd.N_elder' (by (with_reducible repeat (first | apply Kd.N_alloc | apply Kd.N_drewN | apply Kd.N_drew)); exact HO216.out) (Kd.N_base ho9) hb); have n2_ := Aside0.mk (Kd.N_lower ho9 (zak (by repeat (first | (with_reducible first | exact HB.out | apply zae | apply zab | apply zad) | exact HB.out)))); have n3_ := Aside0.mk (zan (by repeat (first | (with_reducible first | exact HB.out | apply zae | apply zab | apply zad) | exact HB.out)) hb); clear HO212; clear HO216; clear HB; have HO212 := n0_; have HO216 := n1_; have HO219 := n2_; have HB := n3_; clear n0_ n1_ n2_ n3_; clear hb ho9; obtain ⟨Ao10, co10, eo10⟩ := Kd.N_slice HO219.out; subst eo10) | ((with_reducible refine zaw (f := 10) rfl ?_); refine goesL_ (some 23) rfl rfl Tryd.func10 (by kernel_rfl) rfl #[.slice Ao10 y217.length co10] rfl (by (try simp only [List.map_toArray, List.map_cons, List.map_nil]); first | done | rfl | (simp only [List.length_drop, List.length_take]; rfl)) ?_; (with_reducible refine (script_Print.calls _ _ y217 t220 t221 _ ?side1 ?side2 ?side3 A3.out).mono ?_); (case side1 => repeat (first | exact (Kd.N_reads' HO219.out).2.2 | (with_reducible refine Kd.C_alloc ?_ _) | (with_reducible refine Kd.C_drewN ?_ _) | (with_reducible refine Kd.C_drew ?_))); (case side2 => exact (Kd.N_reads' HO219.out).2.1); (case side3 => exact zay HT.out (by repeat (first | (with_reducible first | exact HB.out | apply zae | apply zab | apply zad) | exact HB.out))); rintro e w11 ⟨rfl, hb⟩; refine ⟨_, rfl, ?_⟩; have n0_ := Aside0.mk (Kd.N_below (by (with_reducible repeat (first | apply Kd.N_alloc | apply Kd.N_drewN | apply Kd.N_drew)); exact HO212.out) hb); have n1_ := Aside0.mk (Kd.N_below (by (with_reducible repeat (first | apply Kd.N_alloc | apply Kd.N_drewN | apply Kd.N_drew)); exact HO216.out) hb); have n2_ := Aside0.mk (Kd.N_below (by (with_reducible repeat (first | apply Kd.N_alloc | apply Kd.N_drewN | apply Kd.N_drew)); exact HO219.out) hb); have n3_ := Aside0.mk (zan (by repeat (first | (with_reducible first | exact HB.out | apply zae | apply zab | apply zad) | exact HB.out)) hb); clear HO212; clear HO216; clear HO219; clear HB; have HO212 := n0_; have HO216 := n1_; have HO219 := n2_; have HB := n3_; clear n0_ n1_ n2_ n3_; (try clear hb); (try clear hb2); (try clear hk); (try clear hi)) | ((with_reducible refine zar (N := 28) rfl ?_); (try (refine zbk (by rfl) ?_; dsimp only)); refine Kd.N_lit k36 _ 36 ?hg (N' := 28) ?hd (xs := ([(⟨6, 0, 0, (⟨0, (⟨#[]⟩ : ByteArray), (⟨#[]⟩ : ByteArray), (⟨#[]⟩ : ByteArray), ([] : List (S38)), 0, 0, ([] : List Int)⟩ : S34), (⟨#[]⟩ : ByteArray)⟩ : S36)] : List (S36))) (inner := [.int .i64 6, .int .i64 0, .int .i64 0, .int .i64 0, .string (⟨#[]⟩ : ByteArray), .string (⟨#[]⟩ : ByteArray), .string (⟨#[]⟩ : ByteArray), .slice none 0 0, .int .i64 0, .int .i64 0, .slice none 0 0, .string (⟨#[]⟩ : ByteArray)]) (ok := (fun k_ => some k_ ≠ (v211 : Value).ownBlock ∧ some k_ ≠ (v215 : Value).ownBlock ∧ some k_ ≠ (.slice Ao10 y217.length co10 : Value).ownBlock)) (okp := (fun k_ => some k_ ≠ (v211 : Value).ownBlock ∧ some k_ ≠ (v215 : Value).ownBlock ∧ some k_ ≠ (.slice Ao10 y217.length co10 : Value).ownBlock)) ?hr ?hp (fun _ hk => hk) ((show ∀ k_, w11.heap.size ≤ k_ → (fun k_ => some k_ ≠ (v211 : Value).ownBlock ∧ some k_ ≠ (v215 : Value).ownBlock ∧ some k_ ≠ (.slice Ao10 y217.length co10 : Value).ownBlock) k_ from fun k_ hk => ⟨Kd.fresh' (Kd.N_lt (by (with_reducible repeat (first | apply Kd.N_alloc | apply Kd.N_drewN | apply Kd.N_drew)); exact HO212.out)) k_ hk, Kd.fresh' (Kd.N_lt (by (with_reducible repeat (first | apply Kd.N_alloc | apply Kd.N_drewN | apply Kd.N_drew)); exact HO216.out)) k_ hk, Kd.fresh' (Kd.N_lt (by (with_reducible repeat (first | apply Kd.N_alloc | apply Kd.N_drewN | apply Kd.N_drew)); exact HO219.out)) k_ hk⟩) _ (Nat.le_refl _)) (Below.refl _ _) (Nat.le_refl _) (by simp) ?_; (case hd => rfl); (case hg => rfl); (case hr => first | (go_simp; done) | (go_simp; rfl)); (case hp => exact (Reps.front (show Kd.FK k36 _ _ (⟨6, 0, 0, (⟨0, (⟨#[]⟩ : ByteArray), (⟨#[]⟩ : ByteArray), (⟨#[]⟩ : ByteArray), ([] : List (S38)), 0, 0, ([] : List Int)⟩ : S34), (⟨#[]⟩ : ByteArray)⟩ : S36) [.int .i64 6, .int .i64 0, .int .i64 0, .int .i64 0, .string (⟨#[]⟩ : ByteArray), .string (⟨#[]⟩ : ByteArray), .string (⟨#[]⟩ : ByteArray), .slice none 0 0, .int .i64 0, .int .i64 0, .slice none 0 0, .string (⟨#[]⟩ : ByteArray)] from (k36_mkF _ _ (⟨6, 0, 0, (⟨0, (⟨#[]⟩ : ByteArray), (⟨#[]⟩ : ByteArray), (⟨#[]⟩ : ByteArray), ([] : List (S38)), 0, 0, ([] : List Int)⟩ : S34), (⟨#[]⟩ : ByteArray)⟩ : S36) (Nat.le_refl _) (Kd.F_nil _ _ _) (Nat.le_refl _) (Kd.F_nil _ _ _))) rfl (Reps.none _ _) rfl)); intro v223 w12 ho13 hb hg_ hnew_; clear hg_ hnew_; (first | rw [← Ny222.out] at ho13 | (simp only [Int.reduceToNat] at ho13; rw [← Ny222.out] at ho13)); have n0_ := Aside0.mk (Kd.N_elder' (by (with_reducible repeat (first | apply Kd.N_alloc | apply Kd.N_drewN | apply Kd.N_drew)); exact HO212.out) (Kd.N_base ho13) hb); have n1_ := Aside0.mk (Kd.N_elder' (by (with_reducible repeat (first | apply Kd.N_alloc | apply Kd.N_drewN | apply Kd.N_drew)); exact HO216.out) (Kd.N_base ho13) hb); have n2_ := Aside0.mk (Kd.N_elder' (by (with_reducible repeat (first | apply Kd.N_alloc | apply Kd.N_drewN | apply Kd.N_drew)); exact HO219.out) (Kd.N_base ho13) hb); have n3_ := Aside0.mk (Kd.N_lower ho13 (zak (by repeat (first | (with_reducible first | exact HB.out | apply zae | apply zab | apply zad) | exact HB.out)))); have n4_ := Aside0.mk (zan (by repeat (first | (with_reducible first | exact HB.out | apply zae | apply zab | apply zad) | exact HB.out)) hb); clear HO212; clear HO216; clear HO219; clear HB; have HO212 := n0_; have HO216 := n1_; have HO219 := n2_; have HO224 := n3_; have HB := n4_; clear n0_ n1_ n2_ n3_ n4_; clear hb ho13; obtain ⟨Ao14, co14, eo14⟩ := Kd.N_slice HO224.out; subst eo14) | ((with_reducible refine zaw (f := 10) rfl ?_); refine goesL_ (some 29) rfl rfl Tryd.func10 (by kernel_rfl) rfl #[.slice Ao14 y222.length co14] rfl (by (try simp only [List.map_toArray, List.map_cons, List.map_nil]); first | done | rfl | (simp only [List.length_drop, List.length_take]; rfl)) ?_; (with_reducible refine (script_Print.calls _ _ y222 t225 t226 _ ?side1 ?side2 ?side3 A4.out).mono ?_); (case side1 => repeat (first | exact (Kd.N_reads' HO224.out).2.2 | (with_reducible refine Kd.C_alloc ?_ _) | (with_reducible refine Kd.C_drewN ?_ _) | (with_reducible refine Kd.C_drew ?_))); (case side2 => exact (Kd.N_reads' HO224.out).2.1); (case side3 => exact zay HT.out (by repeat (first | (with_reducible first | exact HB.out | apply zae | apply zab | apply zad) | exact HB.out))); rintro e w15 ⟨rfl, hb⟩; refine ⟨_, rfl, ?_⟩; have n0_ := Aside0.mk (Kd.N_below (by (with_reducible repeat (first | apply Kd.N_alloc | apply Kd.N_drewN | apply Kd.N_drew)); exact HO212.out) hb); have n1_ := Aside0.mk (Kd.N_below (by (with_reducible repeat (first | apply Kd.N_alloc | apply Kd.N_drewN | apply Kd.N_drew)); exact HO216.out) hb); have n2_ := Aside0.mk (Kd.N_below (by (with_reducible repeat (first | apply Kd.N_alloc | apply Kd.N_drewN | apply Kd.N_drew)); exact HO219.out) hb); have n3_ := Aside0.mk (Kd.N_below (by (with_reducible repeat (first | apply Kd.N_alloc | apply Kd.N_drewN | apply Kd.N_drew)); exact HO224.out) hb); have n4_ := Aside0.mk (zan (by repeat (first | (with_reducible first | exact HB.out | apply zae | apply zab | apply zad) | exact HB.out)) hb); clear HO212; clear HO216; clear HO219; clear HO224; clear HB; have HO212 := n0_; have HO216 := n1_; have HO219 := n2_; have HO224 := n3_; have HB := n4_; clear n0_ n1_ n2_ n3_ n4_; (try clear hb); (try clear hb2); (try clear hk); (try clear hi)))
 (try simp only [Act.put, List.setIfInBounds_toArray, List.set_cons_zero, List.set_cons_succ])
 go_cut [58] (fun v58 wc => ∃ (kq : Nat) (x58_4 : Bool), v58 = .bool x58_4 ∧ Aside0 (cofferlaw22_first.j0 kq t209 x58_4 = some r) ∧ Aside0 (kq ≤ k) ∧ Aside0 (Kd.N k36 36 wc w.heap.size (fun _ => True) v211 t209) ∧ Aside0 (Below w.heap.size w wc))
 case first =>
  have H := HC5.out
  clear HC5
  by_cases c16 : t210 = 0
  ·
   rw [if_pos c16] at H
   have c16b0 : (t210 == 0) = true := beq_iff_eq.mpr c16
   have c16b1 : (t210 != 0) = false := bne_eq_false_iff_eq.mpr c16
   clear c16
   (first | rw [c16b0] | (simp only [i64_w, i32_w]; rw [c16b0]) | rw [c16b2] | skip)
   by_cases c17 : t214 = 110
   ·
    rw [if_pos c17] at H
    have c17b0 : (t214 == 110) = true := beq_iff_eq.mpr c17
    have c17b1 : (t214 != 110) = false := bne_eq_false_iff_eq.mpr c17
    clear c17
    by_cases c18 : t221 = 0
    ·
     rw [if_pos c18] at H
     have c18b0 : (t221 == 0) = true := beq_iff_eq.mpr c18
     have c18b1 : (t221 != 0) = false := bne_eq_false_iff_eq.mpr c18
     clear c18
     by_cases c19 : t220.toList = ([102, 97, 108, 108, 32, 45, 49, 10, 100, 105, 103, 101, 115, 116, 10] : List UInt8)
     ·
      rw [if_pos c19] at H
      have c19b0 : (t220.toList == ([102, 97, 108, 108, 32, 45, 49, 10, 100, 105, 103, 101, 115, 116, 10] : List UInt8)) = true := beq_iff_eq.mpr c19
      have c19b1 : (t220.toList != ([102, 97, 108, 108, 32, 45, 49, 10, 100, 105, 103, 101, 115, 116, 10] : List UInt8)) = false := bne_eq_false_iff_eq.mpr c19
      clear c19
      by_cases c20 : t226 = 110
      ·
       rw [if_pos c20] at H
       have c20b0 : (t226 == 110) = true := beq_iff_eq.mpr c20
       have c20b1 : (t226 != 110) = false := bne_eq_false_iff_eq.mpr c20
       clear c20
       by_cases c21 : (t209.length : Int) = 3
       ·
        rw [if_pos c21] at H
        have c21b0 : ((t209.length : Int) == 3) = true := beq_iff_eq.mpr c21
        have c21b1 : ((t209.length : Int) != 3) = false := bne_eq_false_iff_eq.mpr c21
        clear c21
        replace H := Option.bind_eq_some_iff.mp H
        obtain ⟨t227, A220, H⟩ := H
        replace H : (cofferlaw22_first.j0 k t209 (t227.toList != ([34, 92, 120, 48, 48, 92, 34, 97, 34] : List UInt8))) = some r := H
        have A22 := Aside0.mk A220
        clear A220
        have H' := Aside0.mk H
        clear H
        obtain ⟨Ao23, co23, eo23⟩ := Kd.N_slice HO212.out
        subst eo23
        go_wp2_with (first | (go_at_call 13; (with_reducible refine (script_Quote.calls k (⟨#[0, 34, 97]⟩ : ByteArray) t227 _ A22.out).mono ?_); rintro e w24 ⟨rfl, hb⟩; have n0_ := Aside0.mk (Kd.N_below (by (with_reducible repeat (first | apply Kd.N_alloc | apply Kd.N_drewN | apply Kd.N_drew)); exact HO212.out) hb); have n1_ := Aside0.mk (Kd.N_below (by (with_reducible repeat (first | apply Kd.N_alloc | apply Kd.N_drewN | apply Kd.N_drew)); exact HO216.out) hb); have n2_ := Aside0.mk (Kd.N_below (by (with_reducible repeat (first | apply Kd.N_alloc | apply Kd.N_drewN | apply Kd.N_drew)); exact HO219.out) hb); have n3_ := Aside0.mk (Kd.N_below (by (with_reducible repeat (first | apply Kd.N_alloc | apply Kd.N_drewN | apply Kd.N_drew)); exact HO224.out) hb); have n4_ := Aside0.mk (zan (by repeat (first | (with_reducible first | exact HB.out | apply zae | apply zab | apply zad) | exact HB.out)) hb); clear HO212; clear HO216; clear HO219; clear HO224; clear HB; have HO212 := n0_; have HO216 := n1_; have HO219 := n2_; have HO224 := n3_; have HB := n4_; clear n0_ n1_ n2_ n3_ n4_; (try clear hb); (try clear hb2); (try clear hk); (try clear hi)))
        go_meet
        case rel => exact ⟨_, ((t227.toList != ([34, 92, 120, 48, 48, 92, 34, 97, 34] : List UInt8))), (by first | rfl | (simp; done) | (simp [*]; done)), H', ⟨by first | omega | exact Nat.le_refl _⟩, ⟨by (with_reducible repeat (first | apply Kd.N_alloc | apply Kd.N_drewN | apply Kd.N_drew)); exact Kd.N_mono HO212.out (fun _ hk => trivial)⟩, ⟨by repeat (first | (with_reducible first | exact HB.out | apply zae | apply zab | apply zad) | exact HB.out)⟩⟩
       ·
        rw [if_neg c21] at H
        have c21b0 : ((t209.length : Int) == 3) = false := beq_eq_false_iff_ne.mpr c21
        have c21b1 : ((t209.length : Int) != 3) = true := bne_iff_ne.mpr c21
        have H' := Aside0.mk H
        clear H
        obtain ⟨Ao25, co25, eo25⟩ := Kd.N_slice HO212.out
        subst eo25
        go_wp2
        go_meet
        case rel => exact ⟨_, (true), (by first | rfl | (simp; done) | (simp [*]; done)), H', ⟨by first | omega | exact Nat.le_refl _⟩, ⟨by (with_reducible repeat (first | apply Kd.N_alloc | apply Kd.N_drewN | apply Kd.N_drew)); exact Kd.N_mono HO212.out (fun _ hk => trivial)⟩, ⟨by repeat (first | (with_reducible first | exact HB.out | apply zae | apply zab | apply zad) | exact HB.out)⟩⟩
      ·
       rw [if_neg c20] at H
       have c20b0 : (t226 == 110) = false := beq_eq_false_iff_ne.mpr c20
       have c20b1 : (t226 != 110) = true := bne_iff_ne.mpr c20
       have H' := Aside0.mk H
       clear H
       go_wp2
       go_meet
       case rel => exact ⟨_, (true), (by first | rfl | (simp; done) | (simp [*]; done)), H', ⟨by first | omega | exact Nat.le_refl _⟩, ⟨by (with_reducible repeat (first | apply Kd.N_alloc | apply Kd.N_drewN | apply Kd.N_drew)); exact Kd.N_mono HO212.out (fun _ hk => trivial)⟩, ⟨by repeat (first | (with_reducible first | exact HB.out | apply zae | apply zab | apply zad) | exact HB.out)⟩⟩
     ·
      rw [if_neg c19] at H
      have c19b0 : (t220.toList == ([102, 97, 108, 108, 32, 45, 49, 10, 100, 105, 103, 101, 115, 116, 10] : List UInt8)) = false := beq_eq_false_iff_ne.mpr c19
      have c19b1 : (t220.toList != ([102, 97, 108, 108, 32, 45, 49, 10, 100, 105, 103, 101, 115, 116, 10] : List UInt8)) = true := bne_iff_ne.mpr c19
      have H' := Aside0.mk H
      clear H
      go_wp2
      go_meet
      case rel => exact ⟨_, (true), (by first | rfl | (simp; done) | (simp [*]; done)), H', ⟨by first | omega | exact Nat.le_refl _⟩, ⟨by (with_reducible repeat (first | apply Kd.N_alloc | apply Kd.N_drewN | apply Kd.N_drew)); exact Kd.N_mono HO212.out (fun _ hk => trivial)⟩, ⟨by repeat (first | (with_reducible first | exact HB.out | apply zae | apply zab | apply zad) | exact HB.out)⟩⟩
    ·
     rw [if_neg c18] at H
     have c18b0 : (t221 == 0) = false := beq_eq_false_iff_ne.mpr c18
     have c18b1 : (t221 != 0) = true := bne_iff_ne.mpr c18
     have H' := Aside0.mk H
     clear H
     go_wp2
     go_meet
     case rel => exact ⟨_, (true), (by first | rfl | (simp; done) | (simp [*]; done)), H', ⟨by first | omega | exact Nat.le_refl _⟩, ⟨by (with_reducible repeat (first | apply Kd.N_alloc | apply Kd.N_drewN | apply Kd.N_drew)); exact Kd.N_mono HO212.out (fun _ hk => trivial)⟩, ⟨by repeat (first | (with_reducible first | exact HB.out | apply zae | apply zab | apply zad) | exact HB.out)⟩⟩
   ·
    rw [if_neg c17] at H
    have c17b0 : (t214 == 110) = false := beq_eq_false_iff_ne.mpr c17
    have c17b1 : (t214 != 110) = true := bne_iff_ne.mpr c17
    have H' := Aside0.mk H
    clear H
    go_wp2
    go_meet
    case rel => exact ⟨_, (true), (by first | rfl | (simp; done) | (simp [*]; done)), H', ⟨by first | omega | exact Nat.le_refl _⟩, ⟨by (with_reducible repeat (first | apply Kd.N_alloc | apply Kd.N_drewN | apply Kd.N_drew)); exact Kd.N_mono HO212.out (fun _ hk => trivial)⟩, ⟨by repeat (first | (with_reducible first | exact HB.out | apply zae | apply zab | apply zad) | exact HB.out)⟩⟩
  ·
   rw [if_neg c16] at H
   have c16b0 : (t210 == 0) = false := beq_eq_false_iff_ne.mpr c16
   have c16b1 : (t210 != 0) = true := bne_iff_ne.mpr c16
   (first | rw [c16b0] | (simp only [i64_w, i32_w]; rw [c16b0]) | rw [c16b2] | skip)
   have H' := Aside0.mk H
   clear H
   go_wp2
   go_meet
   case rel => exact ⟨_, (true), (by first | rfl | (simp; done) | (simp [*]; done)), H', ⟨by first | omega | exact Nat.le_refl _⟩, ⟨by (with_reducible repeat (first | apply Kd.N_alloc | apply Kd.N_drewN | apply Kd.N_drew)); exact Kd.N_mono HO212.out (fun _ hk => trivial)⟩, ⟨by repeat (first | (with_reducible first | exact HB.out | apply zae | apply zab | apply zad) | exact HB.out)⟩⟩
 case rest =>
  clear HC5
  try clear c1
  try clear c2
  try clear p2
  try clear c10
  try clear c16
  try clear c16b0
  try clear c16b1
  try clear c16b2
  try clear c17
  try clear c17b0
  try clear c17b1
  try clear c18
  try clear c18b0
  try clear c18b1
  try clear c19
  try clear c19b0
  try clear c19b1
  try clear c20
  try clear c20b0
  try clear c20b1
  try clear c21
  try clear c21b0
  try clear c21b1
  obtain ⟨kq, x58_4, rfl, HA, HJ4, HO_1, HB⟩ := hcut
  cases kq with
  | zero => exact absurd HA.out (by simp [cofferlaw22_first.j0])
  | succ kj4 =>
   have H := HA.out
   clear HA
   simp only [cofferlaw22_first.j0] at H
   by_cases c26 : x58_4 = true
   ·
    subst c26
    have H1 : (some false) = some r := by rw [if_pos rfl] at H; exact H
    clear H
    have H := H1
    clear H1
    obtain rfl := Option.some.inj H
    go_wp2
    go_ret
    exact ⟨by first | rfl | (simp [zal, zam] <;> rfl) | (simp [*, zal, zam] <;> rfl), by repeat (first | (with_reducible first | exact HB.out | apply zae | apply zab | apply zad) | exact HB.out)⟩
   ·
    replace c26 := Bool.eq_false_iff.mpr c26
    subst c26
    have H1 : ((cofferlaw22_told.f kj4 t209).bind fun t237 => ((cofferref22_Same.f t237 (([(⟨2, 0, 0, (⟨1, (⟨#[97]⟩ : ByteArray), (⟨#[]⟩ : ByteArray), (⟨#[]⟩ : ByteArray), ([] : List (S38)), 0, 0, ([] : List Int)⟩ : S55), (⟨#[]⟩ : ByteArray)⟩ : S57), (⟨2, 0, 0, (⟨3, (⟨#[97]⟩ : ByteArray), (⟨#[107]⟩ : ByteArray), (⟨#[100]⟩ : ByteArray), (([(⟨(⟨#[116]⟩ : ByteArray), (⟨#[120]⟩ : ByteArray)⟩ : S38)] : List (S38))), 0, 0, ([] : List Int)⟩ : S55), (⟨#[]⟩ : ByteArray)⟩ : S57), (⟨2, 0, 0, (⟨18, (⟨#[]⟩ : ByteArray), (⟨#[]⟩ : ByteArray), (⟨#[]⟩ : ByteArray), ([] : List (S38)), 0, 3, (([0, 2] : List Int))⟩ : S55), (⟨#[]⟩ : ByteArray)⟩ : S57)] : List (S57)))).bind fun t240 => (if t240 = true then (some true) else (some false)))) = some r := by rw [if_neg (show ¬ (false = true) by decide)] at H; exact H
    clear H
    have H := H1
    clear H1
    obtain ⟨y228, hy228⟩ : ∃ y_ : List (S38), y_ = (([(⟨(⟨#[116]⟩ : ByteArray), (⟨#[120]⟩ : ByteArray)⟩ : S38)] : List (S38))) := ⟨_, rfl⟩
    replace H : ((cofferlaw22_told.f kj4 t209).bind fun t237 => ((cofferref22_Same.f t237 (([(⟨2, 0, 0, (⟨1, (⟨#[97]⟩ : ByteArray), (⟨#[]⟩ : ByteArray), (⟨#[]⟩ : ByteArray), ([] : List (S38)), 0, 0, ([] : List Int)⟩ : S55), (⟨#[]⟩ : ByteArray)⟩ : S57), (⟨2, 0, 0, (⟨3, (⟨#[97]⟩ : ByteArray), (⟨#[107]⟩ : ByteArray), (⟨#[100]⟩ : ByteArray), y228, 0, 0, ([] : List Int)⟩ : S55), (⟨#[]⟩ : ByteArray)⟩ : S57), (⟨2, 0, 0, (⟨18, (⟨#[]⟩ : ByteArray), (⟨#[]⟩ : ByteArray), (⟨#[]⟩ : ByteArray), ([] : List (S38)), 0, 3, (([0, 2] : List Int))⟩ : S55), (⟨#[]⟩ : ByteArray)⟩ : S57)] : List (S57)))).bind fun t240 => (if t240 = true then (some true) else (some false)))) = some r := by first | (rw [hy228]; with_reducible exact H) | (have H2_ := (Option.bind_some _ _).symm.trans H; rw [hy228]; with_reducible exact H2_) | (have H2_ := (Option.bind_some _ _).symm.trans H; with_reducible exact H2_) | with_reducible exact H | (rw [hy228]; exact H) | exact H
    have Ny228 := Aside0.mk hy228
    clear hy228
    obtain ⟨y231, hy231⟩ : ∃ y_ : List Int, y_ = (([0, 2] : List Int)) := ⟨_, rfl⟩
    replace H : ((cofferlaw22_told.f kj4 t209).bind fun t237 => ((cofferref22_Same.f t237 (([(⟨2, 0, 0, (⟨1, (⟨#[97]⟩ : ByteArray), (⟨#[]⟩ : ByteArray), (⟨#[]⟩ : ByteArray), ([] : List (S38)), 0, 0, ([] : List Int)⟩ : S55), (⟨#[]⟩ : ByteArray)⟩ : S57), (⟨2, 0, 0, (⟨3, (⟨#[97]⟩ : ByteArray), (⟨#[107]⟩ : ByteArray), (⟨#[100]⟩ : ByteArray), y228, 0, 0, ([] : List Int)⟩ : S55), (⟨#[]⟩ : ByteArray)⟩ : S57), (⟨2, 0, 0, (⟨18, (⟨#[]⟩ : ByteArray), (⟨#[]⟩ : ByteArray), (⟨#[]⟩ : ByteArray), ([] : List (S38)), 0, 3, y231⟩ : S55), (⟨#[]⟩ : ByteArray)⟩ : S57)] : List (S57)))).bind fun t240 => (if t240 = true then (some true) else (some false)))) = some r := by first | (rw [hy231]; with_reducible exact H) | (have H2_ := (Option.bind_some _ _).symm.trans H; rw [hy231]; with_reducible exact H2_) | (have H2_ := (Option.bind_some _ _).symm.trans H; with_reducible exact H2_) | with_reducible exact H | (rw [hy231]; exact H) | exact H
    have Ny231 := Aside0.mk hy231
    clear hy231
    obtain ⟨y234, hy234⟩ : ∃ y_ : List (S57), y_ = (([(⟨2, 0, 0, (⟨1, (⟨#[97]⟩ : ByteArray), (⟨#[]⟩ : ByteArray), (⟨#[]⟩ : ByteArray), ([] : List (S38)), 0, 0, ([] : List Int)⟩ : S55), (⟨#[]⟩ : ByteArray)⟩ : S57), (⟨2, 0, 0, (⟨3, (⟨#[97]⟩ : ByteArray), (⟨#[107]⟩ : ByteArray), (⟨#[100]⟩ : ByteArray), y228, 0, 0, ([] : List Int)⟩ : S55), (⟨#[]⟩ : ByteArray)⟩ : S57), (⟨2, 0, 0, (⟨18, (⟨#[]⟩ : ByteArray), (⟨#[]⟩ : ByteArray), (⟨#[]⟩ : ByteArray), ([] : List (S38)), 0, 3, y231⟩ : S55), (⟨#[]⟩ : ByteArray)⟩ : S57)] : List (S57))) := ⟨_, rfl⟩
    replace H : ((cofferlaw22_told.f kj4 t209).bind fun t237 => ((cofferref22_Same.f t237 y234).bind fun t240 => (if t240 = true then (some true) else (some false)))) = some r := by first | (rw [hy234]; with_reducible exact H) | (have H2_ := (Option.bind_some _ _).symm.trans H; rw [hy234]; with_reducible exact H2_) | (have H2_ := (Option.bind_some _ _).symm.trans H; with_reducible exact H2_) | with_reducible exact H | (rw [hy234]; exact H) | exact H
    have Ny234 := Aside0.mk hy234
    clear hy234
    replace H := Option.bind_eq_some_iff.mp H
    obtain ⟨t237, A270, H⟩ := H
    replace H : ((cofferref22_Same.f t237 y234).bind fun t240 => (if t240 = true then (some true) else (some false))) = some r := H
    have A27 := Aside0.mk A270
    clear A270
    replace H := Option.bind_eq_some_iff.mp H
    obtain ⟨t240, A280, H⟩ := H
    replace H : (if t240 = true then (some true) else (some false)) = some r := H
    have A28 := Aside0.mk A280
    clear A280
    by_cases c29 : t240 = true
    ·
     subst c29
     have H1 : (some true) = some r := by rw [if_pos rfl] at H; exact H
     clear H
     have H := H1
     clear H1
     obtain rfl := Option.some.inj H
     go_wp2_with (first | ((with_reducible refine zar (N := 62) rfl ?_); (try (refine zbk (by rfl) ?_; dsimp only)); refine Kd.R_lit k38 _ 38 ?hg (N := 62) ?hd (xs := ([(⟨(⟨#[116]⟩ : ByteArray), (⟨#[120]⟩ : ByteArray)⟩ : S38)] : List (S38))) (inner := [.string (⟨#[116]⟩ : ByteArray), .string (⟨#[120]⟩ : ByteArray)]) (ok := fun _ => True) (okp := fun _ => True) ?hr ?hp (fun _ hk => hk) trivial (Below.refl _ _) (Nat.le_refl _) (by simp) ?_; (case hd => rfl); (case hg => rfl); (case hr => first | (go_simp; done) | (go_simp; rfl)); (case hp => exact (Reps.c2 (show Kd.M k38 _ _ _ (⟨(⟨#[116]⟩ : ByteArray), (⟨#[120]⟩ : ByteArray)⟩ : S38) [.string (⟨#[116]⟩ : ByteArray), .string (⟨#[120]⟩ : ByteArray)] from (k38_mkM _ _ _ (⟨(⟨#[116]⟩ : ByteArray), (⟨#[120]⟩ : ByteArray)⟩ : S38) )) (Reps.none _ _))); intro v229 w30 ho31 hb hg_ hnew_; clear hg_ hnew_; (first | rw [← Ny228.out] at ho31 | (simp only [Int.reduceToNat] at ho31; rw [← Ny228.out] at ho31)); have n0_ := Aside0.mk (Kd.N_elder' (by (with_reducible repeat (first | apply Kd.N_alloc | apply Kd.N_drewN | apply Kd.N_drew)); exact HO_1.out) (Kd.R_base ho31) hb); have n1_ := Aside0.mk (Kd.R_lower ho31 (zak (by repeat (first | (with_reducible first | exact HB.out | apply zae | apply zab | apply zad) | exact HB.out)))); have n2_ := Aside0.mk (zan (by repeat (first | (with_reducible first | exact HB.out | apply zae | apply zab | apply zad) | exact HB.out)) hb); clear HO_1; clear HB; have HO_1 := n0_; have HO230 := n1_; have HB := n2_; clear n0_ n1_ n2_; clear hb ho31; obtain ⟨Ao32, co32, eo32⟩ := Kd.R_slice HO230.out; subst eo32) | ((with_reducible refine zar (N := 65) rfl ?_); (try (refine zbk (by rfl) ?_; dsimp only)); refine Kd.R_lit (Kd.int .i64) _ 3 ?hg (N := 65) ?hd (xs := ([0, 2] : List Int)) (inner := [.int .i64 0, .int .i64 2]) (ok := fun _ => True) (okp := fun _ => True) ?hr ?hp (fun _ hk => hk) trivial (Below.refl _ _) (Nat.le_refl _) (by simp) ?_; (case hd => rfl); (case hg => rfl); (case hr => first | (go_simp; done) | (go_simp; rfl)); (case hp => exact (Reps.one (show Kd.M (Kd.int .i64) _ _ _ 0 [.int .i64 0] from rfl) (Reps.one (show Kd.M (Kd.int .i64) _ _ _ 2 [.int .i64 2] from rfl) (Reps.none _ _)))); intro v232 w33 ho34 hb hg_ hnew_; clear hg_ hnew_; (first | rw [← Ny231.out] at ho34 | (simp only [Int.reduceToNat] at ho34; rw [← Ny231.out] at ho34)); have n0_ := Aside0.mk (Kd.N_elder' (by (with_reducible repeat (first | apply Kd.N_alloc | apply Kd.N_drewN | apply Kd.N_drew)); exact HO_1.out) (Kd.R_base ho34) hb); have n1_ := Aside0.mk (Kd.R_below (by (with_reducible repeat (first | apply Kd.R_alloc | apply Kd.R_drewN | apply Kd.R_drew)); exact HO230.out) hb); have n2_ := Aside0.mk (Kd.R_lower ho34 (zak (by repeat (first | (with_reducible first | exact HB.out | apply zae | apply zab | apply zad) | exact HB.out)))); have n3_ := Aside0.mk (zan (by repeat (first | (with_reducible first | exact HB.out | apply zae | apply zab | apply zad) | exact HB.out)) hb); clear HO_1; clear HO230; clear HB; have HO_1 := n0_; have HO230 := n1_; have HO233 := n2_; have HB := n3_; clear n0_ n1_ n2_ n3_; clear hb ho34; obtain ⟨Ao35, co35, eo35⟩ := Kd.R_slice HO233.out; subst eo35) | ((with_reducible refine zar (N := 68) rfl ?_); (try (refine zbk (by rfl) ?_; dsimp only)); refine Kd.N_lit k57 _ 57 ?hg (N' := 68) ?hd (xs := ([(⟨2, 0, 0, (⟨1, (⟨#[97]⟩ : ByteArray), (⟨#[]⟩ : ByteArray), (⟨#[]⟩ : ByteArray), ([] : List (S38)), 0, 0, ([] : List Int)⟩ : S55), (⟨#[]⟩ : ByteArray)⟩ : S57), (⟨2, 0, 0, (⟨3, (⟨#[97]⟩ : ByteArray), (⟨#[107]⟩ : ByteArray), (⟨#[100]⟩ : ByteArray), y228, 0, 0, ([] : List Int)⟩ : S55), (⟨#[]⟩ : ByteArray)⟩ : S57), (⟨2, 0, 0, (⟨18, (⟨#[]⟩ : ByteArray), (⟨#[]⟩ : ByteArray), (⟨#[]⟩ : ByteArray), ([] : List (S38)), 0, 3, y231⟩ : S55), (⟨#[]⟩ : ByteArray)⟩ : S57)] : List (S57))) (inner := [.int .i64 2, .int .i64 0, .int .i64 0, .int .i64 1, .string (⟨#[97]⟩ : ByteArray), .string (⟨#[]⟩ : ByteArray), .string (⟨#[]⟩ : ByteArray), .slice none 0 0, .int .i64 0, .int .i64 0, .slice none 0 0, .string (⟨#[]⟩ : ByteArray), .int .i64 2, .int .i64 0, .int .i64 0, .int .i64 3, .string (⟨#[97]⟩ : ByteArray), .string (⟨#[107]⟩ : ByteArray), .string (⟨#[100]⟩ : ByteArray), .slice Ao32 y228.length co32, .int .i64 0, .int .i64 0, .slice none 0 0, .string (⟨#[]⟩ : ByteArray), .int .i64 2, .int .i64 0, .int .i64 0, .int .i64 18, .string (⟨#[]⟩ : ByteArray), .string (⟨#[]⟩ : ByteArray), .string (⟨#[]⟩ : ByteArray), .slice none 0 0, .int .i64 0, .int .i64 3, .slice Ao35 y231.length co35, .string (⟨#[]⟩ : ByteArray)]) (ok := (fun k_ => some k_ ≠ (v211 : Value).ownBlock)) (okp := (fun k_ => some k_ ≠ (v211 : Value).ownBlock)) ?hr ?hp (fun _ hk => hk) ((show ∀ k_, w33.heap.size ≤ k_ → (fun k_ => some k_ ≠ (v211 : Value).ownBlock) k_ from fun k_ hk => Kd.fresh' (Kd.N_lt (by (with_reducible repeat (first | apply Kd.N_alloc | apply Kd.N_drewN | apply Kd.N_drew)); exact HO_1.out)) k_ hk) _ (Nat.le_refl _)) (Below.refl _ _) (Nat.le_refl _) (by simp) ?_; (case hd => rfl); (case hg => rfl); (case hr => first | (go_simp; done) | (go_simp; rfl)); (case hp => exact (Reps.front (show Kd.FK k57 _ _ (⟨2, 0, 0, (⟨1, (⟨#[97]⟩ : ByteArray), (⟨#[]⟩ : ByteArray), (⟨#[]⟩ : ByteArray), ([] : List (S38)), 0, 0, ([] : List Int)⟩ : S55), (⟨#[]⟩ : ByteArray)⟩ : S57) [.int .i64 2, .int .i64 0, .int .i64 0, .int .i64 1, .string (⟨#[97]⟩ : ByteArray), .string (⟨#[]⟩ : ByteArray), .string (⟨#[]⟩ : ByteArray), .slice none 0 0, .int .i64 0, .int .i64 0, .slice none 0 0, .string (⟨#[]⟩ : ByteArray)] from (k57_mkF _ _ (⟨2, 0, 0, (⟨1, (⟨#[97]⟩ : ByteArray), (⟨#[]⟩ : ByteArray), (⟨#[]⟩ : ByteArray), ([] : List (S38)), 0, 0, ([] : List Int)⟩ : S55), (⟨#[]⟩ : ByteArray)⟩ : S57) (Nat.le_refl _) (Kd.F_nil _ _ _) (Nat.le_refl _) (Kd.F_nil _ _ _))) rfl (Reps.front (show Kd.FK k57 _ _ (⟨2, 0, 0, (⟨3, (⟨#[97]⟩ : ByteArray), (⟨#[107]⟩ : ByteArray), (⟨#[100]⟩ : ByteArray), y228, 0, 0, ([] : List Int)⟩ : S55), (⟨#[]⟩ : ByteArray)⟩ : S57) [.int .i64 2, .int .i64 0, .int .i64 0, .int .i64 3, .string (⟨#[97]⟩ : ByteArray), .string (⟨#[107]⟩ : ByteArray), .string (⟨#[100]⟩ : ByteArray), .slice Ao32 y228.length co32, .int .i64 0, .int .i64 0, .slice none 0 0, .string (⟨#[]⟩ : ByteArray)] from (k57_mkF _ _ (⟨2, 0, 0, (⟨3, (⟨#[97]⟩ : ByteArray), (⟨#[107]⟩ : ByteArray), (⟨#[100]⟩ : ByteArray), y228, 0, 0, ([] : List Int)⟩ : S55), (⟨#[]⟩ : ByteArray)⟩ : S57) (Kd.R_reads' (Kd.R_mono (ok' := (fun k_ => some k_ ≠ (v211 : Value).ownBlock)) (Kd.R_apart' (HO230.out) (Kd.N_typed HO_1.out) (by decide)) (fun k_ hk => hk.2))).2.1 (Kd.R_F (Kd.R_mono (ok' := (fun k_ => some k_ ≠ (v211 : Value).ownBlock)) (Kd.R_apart' (HO230.out) (Kd.N_typed HO_1.out) (by decide)) (fun k_ hk => hk.2))) (Nat.le_refl _) (Kd.F_nil _ _ _))) rfl (Reps.front (show Kd.FK k57 _ _ (⟨2, 0, 0, (⟨18, (⟨#[]⟩ : ByteArray), (⟨#[]⟩ : ByteArray), (⟨#[]⟩ : ByteArray), ([] : List (S38)), 0, 3, y231⟩ : S55), (⟨#[]⟩ : ByteArray)⟩ : S57) [.int .i64 2, .int .i64 0, .int .i64 0, .int .i64 18, .string (⟨#[]⟩ : ByteArray), .string (⟨#[]⟩ : ByteArray), .string (⟨#[]⟩ : ByteArray), .slice none 0 0, .int .i64 0, .int .i64 3, .slice Ao35 y231.length co35, .string (⟨#[]⟩ : ByteArray)] from (k57_mkF _ _ (⟨2, 0, 0, (⟨18, (⟨#[]⟩ : ByteArray), (⟨#[]⟩ : ByteArray), (⟨#[]⟩ : ByteArray), ([] : List (S38)), 0, 3, y231⟩ : S55), (⟨#[]⟩ : ByteArray)⟩ : S57) (Nat.le_refl _) (Kd.F_nil _ _ _) (Kd.R_reads' (Kd.R_mono (ok' := (fun k_ => some k_ ≠ (v211 : Value).ownBlock)) (Kd.R_apart' (HO233.out) (Kd.N_typed HO_1.out) (by decide)) (fun k_ hk => hk.2))).2.1 (Kd.R_F (Kd.R_mono (ok' := (fun k_ => some k_ ≠ (v211 : Value).ownBlock)) (Kd.R_apart' (HO233.out) (Kd.N_typed HO_1.out) (by decide)) (fun k_ hk => hk.2))))) rfl (Reps.none _ _) rfl) rfl) rfl)); intro v235 w36 ho37 hb hg_ hnew_; clear hg_ hnew_; (first | rw [← Ny234.out] at ho37 | (simp only [Int.reduceToNat] at ho37; rw [← Ny234.out] at ho37)); have n0_ := Aside0.mk (Kd.N_elder' (by (with_reducible repeat (first | apply Kd.N_alloc | apply Kd.N_drewN | apply Kd.N_drew)); exact HO_1.out) (Kd.N_base ho37) hb); have n1_ := Aside0.mk (Kd.N_lower ho37 (zak (by repeat (first | (with_reducible first | exact HB.out | apply zae | apply zab | apply zad) | exact HB.out)))); have n2_ := Aside0.mk (zan (by repeat (first | (with_reducible first | exact HB.out | apply zae | apply zab | apply zad) | exact HB.out)) hb); clear HO_1; clear HB; clear HO230; clear HO233; have HO_1 := n0_; have HO236 := n1_; have HB := n2_; clear n0_ n1_ n2_; clear hb ho37; obtain ⟨Ao38, co38, eo38⟩ := Kd.N_slice HO_1.out; subst eo38) | ((with_reducible refine zaw (f := 15) rfl ?_); refine goesL_ (some 70) rfl rfl Tryd.func15 (by kernel_rfl) rfl #[.slice Ao38 t209.length co38] rfl (by (try simp only [List.map_toArray, List.map_cons, List.map_nil]); first | done | rfl | (simp only [List.length_drop, List.length_take]; rfl)) ?_; (with_reducible refine (cofferlaw22_told.calls kj4 _ _ t209 t237 _ ?side1 ?side2 A27.out).mono ?_); (case side1 => repeat (first | exact (Kd.N_reads' HO_1.out).2.2 | (with_reducible refine Kd.C_alloc ?_ _) | (with_reducible refine Kd.C_drewN ?_ _) | (with_reducible refine Kd.C_drew ?_))); (case side2 => exact (Kd.N_reads' HO_1.out).2.1); rintro e w39 ⟨v238, rfl, ho0, hb⟩; refine ⟨_, rfl, ?_⟩; have n0_ := Aside0.mk (Kd.N_elder' (by (with_reducible repeat (first | apply Kd.N_alloc | apply Kd.N_drewN | apply Kd.N_drew)); exact HO_1.out) (Kd.N_base (Kd.S_N ho0)) hb); have n1_ := Aside0.mk (Kd.N_elder' (by (with_reducible repeat (first | apply Kd.N_alloc | apply Kd.N_drewN | apply Kd.N_drew)); exact HO236.out) (Kd.N_base (Kd.S_N ho0)) hb); have n2_ := Aside0.mk (Kd.N_lower (Kd.N_mono (ok' := fun k_ => some k_ ≠ (.slice Ao38 t209.length co38 : Value).ownBlock ∧ some k_ ≠ (v235 : Value).ownBlock) (Kd.S_N (Kd.S_bound ho0)) (fun k_ hk_ => ⟨(Kd.fresh' (Kd.N_lt (by (with_reducible repeat (first | apply Kd.N_alloc | apply Kd.N_drewN | apply Kd.N_drew)); exact HO_1.out)) k_ hk_.2.1), (Kd.fresh' (Kd.N_lt (by (with_reducible repeat (first | apply Kd.N_alloc | apply Kd.N_drewN | apply Kd.N_drew)); exact HO236.out)) k_ hk_.2.1)⟩)) (zak (by repeat (first | (with_reducible first | exact HB.out | apply zae | apply zab | apply zad) | exact HB.out)))); have n3_ := Aside0.mk (zan (by repeat (first | (with_reducible first | exact HB.out | apply zae | apply zab | apply zad) | exact HB.out)) hb); clear HO_1; clear HO236; clear HB; have HO_1 := n0_; have HO236 := n1_; have HO239 := n2_; have HB := n3_; clear n0_ n1_ n2_ n3_; (try clear hb); (try clear hb2); (try clear hk); (try clear hi); (try clear ho0); obtain ⟨Ao40, co40, eo40⟩ := Kd.N_slice HO239.out; subst eo40; obtain ⟨Ao41, co41, eo41⟩ := Kd.N_slice HO236.out; subst eo41) | ((with_reducible refine zaw (f := 19) rfl ?_); refine goesL_ (some 72) rfl rfl Tryd.func19 (by kernel_rfl) rfl #[.slice Ao40 t237.length co40, .slice Ao41 y234.length co41] rfl (by (try simp only [List.map_toArray, List.map_cons, List.map_nil]); first | done | rfl | (simp only [List.length_drop, List.length_take]; rfl)) ?_; (with_reducible refine (cofferref22_Same.calls _ _ t237 _ _ y234 true _ ?side1 ?side2 ?side3 ?side4 A28.out).mono ?_); (case side1 => repeat (first | exact (Kd.N_reads' HO239.out).2.2 | (with_reducible refine Kd.C_alloc ?_ _) | (with_reducible refine Kd.C_drewN ?_ _) | (with_reducible refine Kd.C_drew ?_))); (case side2 => exact (Kd.N_reads' HO239.out).2.1); (case side3 => repeat (first | exact (Kd.N_reads' HO236.out).2.2 | (with_reducible refine Kd.C_alloc ?_ _) | (with_reducible refine Kd.C_drewN ?_ _) | (with_reducible refine Kd.C_drew ?_))); (case side4 => exact (Kd.N_reads' HO236.out).2.1); rintro e w42 ⟨rfl, hb⟩; refine ⟨_, rfl, ?_⟩; have n0_ := Aside0.mk (Kd.N_below (by (with_reducible repeat (first | apply Kd.N_alloc | apply Kd.N_drewN | apply Kd.N_drew)); exact HO_1.out) hb); have n1_ := Aside0.mk (Kd.N_below (by (with_reducible repeat (first | apply Kd.N_alloc | apply Kd.N_drewN | apply Kd.N_drew)); exact HO236.out) hb); have n2_ := Aside0.mk (Kd.N_below (by (with_reducible repeat (first | apply Kd.N_alloc | apply Kd.N_drewN | apply Kd.N_drew)); exact HO239.out) hb); have n3_ := Aside0.mk (zan (by repeat (first | (with_reducible first | exact HB.out | apply zae | apply zab | apply zad) | exact HB.out)) hb); clear HO_1; clear HO236; clear HO239; clear HB; have HO_1 := n0_; have HO236 := n1_; have HO239 := n2_; have HB := n3_; clear n0_ n1_ n2_ n3_; (try clear hb); (try clear hb2); (try clear hk); (try clear hi)))
     go_ret
     exact ⟨by first | rfl | (simp [zal, zam] <;> rfl) | (simp [*, zal, zam] <;> rfl), by repeat (first | (with_reducible first | exact HB.out | apply zae | apply zab | apply zad) | exact HB.out)⟩
    ·
     replace c29 := Bool.eq_false_iff.mpr c29
     subst c29
     have H1 : (some false) = some r := by rw [if_neg (show ¬ (false = true) by decide)] at H; exact H
     clear H
     have H := H1
     clear H1
     obtain rfl := Option.some.inj H
     go_wp2_with (first | ((with_reducible refine zar (N := 62) rfl ?_); (try (refine zbk (by rfl) ?_; dsimp only)); refine Kd.R_lit k38 _ 38 ?hg (N := 62) ?hd (xs := ([(⟨(⟨#[116]⟩ : ByteArray), (⟨#[120]⟩ : ByteArray)⟩ : S38)] : List (S38))) (inner := [.string (⟨#[116]⟩ : ByteArray), .string (⟨#[120]⟩ : ByteArray)]) (ok := fun _ => True) (okp := fun _ => True) ?hr ?hp (fun _ hk => hk) trivial (Below.refl _ _) (Nat.le_refl _) (by simp) ?_; (case hd => rfl); (case hg => rfl); (case hr => first | (go_simp; done) | (go_simp; rfl)); (case hp => exact (Reps.c2 (show Kd.M k38 _ _ _ (⟨(⟨#[116]⟩ : ByteArray), (⟨#[120]⟩ : ByteArray)⟩ : S38) [.string (⟨#[116]⟩ : ByteArray), .string (⟨#[120]⟩ : ByteArray)] from (k38_mkM _ _ _ (⟨(⟨#[116]⟩ : ByteArray), (⟨#[120]⟩ : ByteArray)⟩ : S38) )) (Reps.none _ _))); intro v229 w43 ho44 hb hg_ hnew_; clear hg_ hnew_; (first | rw [← Ny228.out] at ho44 | (simp only [Int.reduceToNat] at ho44; rw [← Ny228.out] at ho44)); have n0_ := Aside0.mk (Kd.N_elder' (by (with_reducible repeat (first | apply Kd.N_alloc | apply Kd.N_drewN | apply Kd.N_drew)); exact HO_1.out) (Kd.R_base ho44) hb); have n1_ := Aside0.mk (Kd.R_lower ho44 (zak (by repeat (first | (with_reducible first | exact HB.out | apply zae | apply zab | apply zad) | exact HB.out)))); have n2_ := Aside0.mk (zan (by repeat (first | (with_reducible first | exact HB.out | apply zae | apply zab | apply zad) | exact HB.out)) hb); clear HO_1; clear HB; have HO_1 := n0_; have HO230 := n1_; have HB := n2_; clear n0_ n1_ n2_; clear hb ho44; obtain ⟨Ao45, co45, eo45⟩ := Kd.R_slice HO230.out; subst eo45) | ((with_reducible refine zar (N := 65) rfl ?_); (try (refine zbk (by rfl) ?_; dsimp only)); refine Kd.R_lit (Kd.int .i64) _ 3 ?hg (N := 65) ?hd (xs := ([0, 2] : List Int)) (inner := [.int .i64 0, .int .i64 2]) (ok := fun _ => True) (okp := fun _ => True) ?hr ?hp (fun _ hk => hk) trivial (Below.refl _ _) (Nat.le_refl _) (by simp) ?_; (case hd => rfl); (case hg => rfl); (case hr => first | (go_simp; done) | (go_simp; rfl)); (case hp => exact (Reps.one (show Kd.M (Kd.int .i64) _ _ _ 0 [.int .i64 0] from rfl) (Reps.one (show Kd.M (Kd.int .i64) _ _ _ 2 [.int .i64 2] from rfl) (Reps.none _ _)))); intro v232 w46 ho47 hb hg_ hnew_; clear hg_ hnew_; (first | rw [← Ny231.out] at ho47 | (simp only [Int.reduceToNat] at ho47; rw [← Ny231.out] at ho47)); have n0_ := Aside0.mk (Kd.N_elder' (by (with_reducible repeat (first | apply Kd.N_alloc | apply Kd.N_drewN | apply Kd.N_drew)); exact HO_1.out) (Kd.R_base ho47) hb); have n1_ := Aside0.mk (Kd.R_below (by (with_reducible repeat (first | apply Kd.R_alloc | apply Kd.R_drewN | apply Kd.R_drew)); exact HO230.out) hb); have n2_ := Aside0.mk (Kd.R_lower ho47 (zak (by repeat (first | (with_reducible first | exact HB.out | apply zae | apply zab | apply zad) | exact HB.out)))); have n3_ := Aside0.mk (zan (by repeat (first | (with_reducible first | exact HB.out | apply zae | apply zab | apply zad) | exact HB.out)) hb); clear HO_1; clear HO230; clear HB; have HO_1 := n0_; have HO230 := n1_; have HO233 := n2_; have HB := n3_; clear n0_ n1_ n2_ n3_; clear hb ho47; obtain ⟨Ao48, co48, eo48⟩ := Kd.R_slice HO233.out; subst eo48) | ((with_reducible refine zar (N := 68) rfl ?_); (try (refine zbk (by rfl) ?_; dsimp only)); refine Kd.N_lit k57 _ 57 ?hg (N' := 68) ?hd (xs := ([(⟨2, 0, 0, (⟨1, (⟨#[97]⟩ : ByteArray), (⟨#[]⟩ : ByteArray), (⟨#[]⟩ : ByteArray), ([] : List (S38)), 0, 0, ([] : List Int)⟩ : S55), (⟨#[]⟩ : ByteArray)⟩ : S57), (⟨2, 0, 0, (⟨3, (⟨#[97]⟩ : ByteArray), (⟨#[107]⟩ : ByteArray), (⟨#[100]⟩ : ByteArray), y228, 0, 0, ([] : List Int)⟩ : S55), (⟨#[]⟩ : ByteArray)⟩ : S57), (⟨2, 0, 0, (⟨18, (⟨#[]⟩ : ByteArray), (⟨#[]⟩ : ByteArray), (⟨#[]⟩ : ByteArray), ([] : List (S38)), 0, 3, y231⟩ : S55), (⟨#[]⟩ : ByteArray)⟩ : S57)] : List (S57))) (inner := [.int .i64 2, .int .i64 0, .int .i64 0, .int .i64 1, .string (⟨#[97]⟩ : ByteArray), .string (⟨#[]⟩ : ByteArray), .string (⟨#[]⟩ : ByteArray), .slice none 0 0, .int .i64 0, .int .i64 0, .slice none 0 0, .string (⟨#[]⟩ : ByteArray), .int .i64 2, .int .i64 0, .int .i64 0, .int .i64 3, .string (⟨#[97]⟩ : ByteArray), .string (⟨#[107]⟩ : ByteArray), .string (⟨#[100]⟩ : ByteArray), .slice Ao45 y228.length co45, .int .i64 0, .int .i64 0, .slice none 0 0, .string (⟨#[]⟩ : ByteArray), .int .i64 2, .int .i64 0, .int .i64 0, .int .i64 18, .string (⟨#[]⟩ : ByteArray), .string (⟨#[]⟩ : ByteArray), .string (⟨#[]⟩ : ByteArray), .slice none 0 0, .int .i64 0, .int .i64 3, .slice Ao48 y231.length co48, .string (⟨#[]⟩ : ByteArray)]) (ok := (fun k_ => some k_ ≠ (v211 : Value).ownBlock)) (okp := (fun k_ => some k_ ≠ (v211 : Value).ownBlock)) ?hr ?hp (fun _ hk => hk) ((show ∀ k_, w46.heap.size ≤ k_ → (fun k_ => some k_ ≠ (v211 : Value).ownBlock) k_ from fun k_ hk => Kd.fresh' (Kd.N_lt (by (with_reducible repeat (first | apply Kd.N_alloc | apply Kd.N_drewN | apply Kd.N_drew)); exact HO_1.out)) k_ hk) _ (Nat.le_refl _)) (Below.refl _ _) (Nat.le_refl _) (by simp) ?_; (case hd => rfl); (case hg => rfl); (case hr => first | (go_simp; done) | (go_simp; rfl)); (case hp => exact (Reps.front (show Kd.FK k57 _ _ (⟨2, 0, 0, (⟨1, (⟨#[97]⟩ : ByteArray), (⟨#[]⟩ : ByteArray), (⟨#[]⟩ : ByteArray), ([] : List (S38)), 0, 0, ([] : List Int)⟩ : S55), (⟨#[]⟩ : ByteArray)⟩ : S57) [.int .i64 2, .int .i64 0, .int .i64 0, .int .i64 1, .string (⟨#[97]⟩ : ByteArray), .string (⟨#[]⟩ : ByteArray), .string (⟨#[]⟩ : ByteArray), .slice none 0 0, .int .i64 0, .int .i64 0, .slice none 0 0, .string (⟨#[]⟩ : ByteArray)] from (k57_mkF _ _ (⟨2, 0, 0, (⟨1, (⟨#[97]⟩ : ByteArray), (⟨#[]⟩ : ByteArray), (⟨#[]⟩ : ByteArray), ([] : List (S38)), 0, 0, ([] : List Int)⟩ : S55), (⟨#[]⟩ : ByteArray)⟩ : S57) (Nat.le_refl _) (Kd.F_nil _ _ _) (Nat.le_refl _) (Kd.F_nil _ _ _))) rfl (Reps.front (show Kd.FK k57 _ _ (⟨2, 0, 0, (⟨3, (⟨#[97]⟩ : ByteArray), (⟨#[107]⟩ : ByteArray), (⟨#[100]⟩ : ByteArray), y228, 0, 0, ([] : List Int)⟩ : S55), (⟨#[]⟩ : ByteArray)⟩ : S57) [.int .i64 2, .int .i64 0, .int .i64 0, .int .i64 3, .string (⟨#[97]⟩ : ByteArray), .string (⟨#[107]⟩ : ByteArray), .string (⟨#[100]⟩ : ByteArray), .slice Ao45 y228.length co45, .int .i64 0, .int .i64 0, .slice none 0 0, .string (⟨#[]⟩ : ByteArray)] from (k57_mkF _ _ (⟨2, 0, 0, (⟨3, (⟨#[97]⟩ : ByteArray), (⟨#[107]⟩ : ByteArray), (⟨#[100]⟩ : ByteArray), y228, 0, 0, ([] : List Int)⟩ : S55), (⟨#[]⟩ : ByteArray)⟩ : S57) (Kd.R_reads' (Kd.R_mono (ok' := (fun k_ => some k_ ≠ (v211 : Value).ownBlock)) (Kd.R_apart' (HO230.out) (Kd.N_typed HO_1.out) (by decide)) (fun k_ hk => hk.2))).2.1 (Kd.R_F (Kd.R_mono (ok' := (fun k_ => some k_ ≠ (v211 : Value).ownBlock)) (Kd.R_apart' (HO230.out) (Kd.N_typed HO_1.out) (by decide)) (fun k_ hk => hk.2))) (Nat.le_refl _) (Kd.F_nil _ _ _))) rfl (Reps.front (show Kd.FK k57 _ _ (⟨2, 0, 0, (⟨18, (⟨#[]⟩ : ByteArray), (⟨#[]⟩ : ByteArray), (⟨#[]⟩ : ByteArray), ([] : List (S38)), 0, 3, y231⟩ : S55), (⟨#[]⟩ : ByteArray)⟩ : S57) [.int .i64 2, .int .i64 0, .int .i64 0, .int .i64 18, .string (⟨#[]⟩ : ByteArray), .string (⟨#[]⟩ : ByteArray), .string (⟨#[]⟩ : ByteArray), .slice none 0 0, .int .i64 0, .int .i64 3, .slice Ao48 y231.length co48, .string (⟨#[]⟩ : ByteArray)] from (k57_mkF _ _ (⟨2, 0, 0, (⟨18, (⟨#[]⟩ : ByteArray), (⟨#[]⟩ : ByteArray), (⟨#[]⟩ : ByteArray), ([] : List (S38)), 0, 3, y231⟩ : S55), (⟨#[]⟩ : ByteArray)⟩ : S57) (Nat.le_refl _) (Kd.F_nil _ _ _) (Kd.R_reads' (Kd.R_mono (ok' := (fun k_ => some k_ ≠ (v211 : Value).ownBlock)) (Kd.R_apart' (HO233.out) (Kd.N_typed HO_1.out) (by decide)) (fun k_ hk => hk.2))).2.1 (Kd.R_F (Kd.R_mono (ok' := (fun k_ => some k_ ≠ (v211 : Value).ownBlock)) (Kd.R_apart' (HO233.out) (Kd.N_typed HO_1.out) (by decide)) (fun k_ hk => hk.2))))) rfl (Reps.none _ _) rfl) rfl) rfl)); intro v235 w49 ho50 hb hg_ hnew_; clear hg_ hnew_; (first | rw [← Ny234.out] at ho50 | (simp only [Int.reduceToNat] at ho50; rw [← Ny234.out] at ho50)); have n0_ := Aside0.mk (Kd.N_elder' (by (with_reducible repeat (first | apply Kd.N_alloc | apply Kd.N_drewN | apply Kd.N_drew)); exact HO_1.out) (Kd.N_base ho50) hb); have n1_ := Aside0.mk (Kd.N_lower ho50 (zak (by repeat (first | (with_reducible first | exact HB.out | apply zae | apply zab | apply zad) | exact HB.out)))); have n2_ := Aside0.mk (zan (by repeat (first | (with_reducible first | exact HB.out | apply zae | apply zab | apply zad) | exact HB.out)) hb); clear HO_1; clear HB; clear HO230; clear HO233; have HO_1 := n0_; have HO236 := n1_; have HB := n2_; clear n0_ n1_ n2_; clear hb ho50; obtain ⟨Ao51, co51, eo51⟩ := Kd.N_slice HO_1.out; subst eo51) | ((with_reducible refine zaw (f := 15) rfl ?_); refine goesL_ (some 70) rfl rfl Tryd.func15 (by kernel_rfl) rfl #[.slice Ao51 t209.length co51] rfl (by (try simp only [List.map_toArray, List.map_cons, List.map_nil]); first | done | rfl | (simp only [List.length_drop, List.length_take]; rfl)) ?_; (with_reducible refine (cofferlaw22_told.calls kj4 _ _ t209 t237 _ ?side1 ?side2 A27.out).mono ?_); (case side1 => repeat (first | exact (Kd.N_reads' HO_1.out).2.2 | (with_reducible refine Kd.C_alloc ?_ _) | (with_reducible refine Kd.C_drewN ?_ _) | (with_reducible refine Kd.C_drew ?_))); (case side2 => exact (Kd.N_reads' HO_1.out).2.1); rintro e w52 ⟨v238, rfl, ho0, hb⟩; refine ⟨_, rfl, ?_⟩; have n0_ := Aside0.mk (Kd.N_elder' (by (with_reducible repeat (first | apply Kd.N_alloc | apply Kd.N_drewN | apply Kd.N_drew)); exact HO_1.out) (Kd.N_base (Kd.S_N ho0)) hb); have n1_ := Aside0.mk (Kd.N_elder' (by (with_reducible repeat (first | apply Kd.N_alloc | apply Kd.N_drewN | apply Kd.N_drew)); exact HO236.out) (Kd.N_base (Kd.S_N ho0)) hb); have n2_ := Aside0.mk (Kd.N_lower (Kd.N_mono (ok' := fun k_ => some k_ ≠ (.slice Ao51 t209.length co51 : Value).ownBlock ∧ some k_ ≠ (v235 : Value).ownBlock) (Kd.S_N (Kd.S_bound ho0)) (fun k_ hk_ => ⟨(Kd.fresh' (Kd.N_lt (by (with_reducible repeat (first | apply Kd.N_alloc | apply Kd.N_drewN | apply Kd.N_drew)); exact HO_1.out)) k_ hk_.2.1), (Kd.fresh' (Kd.N_lt (by (with_reducible repeat (first | apply Kd.N_alloc | apply Kd.N_drewN | apply Kd.N_drew)); exact HO236.out)) k_ hk_.2.1)⟩)) (zak (by repeat (first | (with_reducible first | exact HB.out | apply zae | apply zab | apply zad) | exact HB.out)))); have n3_ := Aside0.mk (zan (by repeat (first | (with_reducible first | exact HB.out | apply zae | apply zab | apply zad) | exact HB.out)) hb); clear HO_1; clear HO236; clear HB; have HO_1 := n0_; have HO236 := n1_; have HO239 := n2_; have HB := n3_; clear n0_ n1_ n2_ n3_; (try clear hb); (try clear hb2); (try clear hk); (try clear hi); (try clear ho0); obtain ⟨Ao53, co53, eo53⟩ := Kd.N_slice HO239.out; subst eo53; obtain ⟨Ao54, co54, eo54⟩ := Kd.N_slice HO236.out; subst eo54) | ((with_reducible refine zaw (f := 19) rfl ?_); refine goesL_ (some 72) rfl rfl Tryd.func19 (by kernel_rfl) rfl #[.slice Ao53 t237.length co53, .slice Ao54 y234.length co54] rfl (by (try simp only [List.map_toArray, List.map_cons, List.map_nil]); first | done | rfl | (simp only [List.length_drop, List.length_take]; rfl)) ?_; (with_reducible refine (cofferref22_Same.calls _ _ t237 _ _ y234 false _ ?side1 ?side2 ?side3 ?side4 A28.out).mono ?_); (case side1 => repeat (first | exact (Kd.N_reads' HO239.out).2.2 | (with_reducible refine Kd.C_alloc ?_ _) | (with_reducible refine Kd.C_drewN ?_ _) | (with_reducible refine Kd.C_drew ?_))); (case side2 => exact (Kd.N_reads' HO239.out).2.1); (case side3 => repeat (first | exact (Kd.N_reads' HO236.out).2.2 | (with_reducible refine Kd.C_alloc ?_ _) | (with_reducible refine Kd.C_drewN ?_ _) | (with_reducible refine Kd.C_drew ?_))); (case side4 => exact (Kd.N_reads' HO236.out).2.1); rintro e w55 ⟨rfl, hb⟩; refine ⟨_, rfl, ?_⟩; have n0_ := Aside0.mk (Kd.N_below (by (with_reducible repeat (first | apply Kd.N_alloc | apply Kd.N_drewN | apply Kd.N_drew)); exact HO_1.out) hb); have n1_ := Aside0.mk (Kd.N_below (by (with_reducible repeat (first | apply Kd.N_alloc | apply Kd.N_drewN | apply Kd.N_drew)); exact HO236.out) hb); have n2_ := Aside0.mk (Kd.N_below (by (with_reducible repeat (first | apply Kd.N_alloc | apply Kd.N_drewN | apply Kd.N_drew)); exact HO239.out) hb); have n3_ := Aside0.mk (zan (by repeat (first | (with_reducible first | exact HB.out | apply zae | apply zab | apply zad) | exact HB.out)) hb); clear HO_1; clear HO236; clear HO239; clear HB; have HO_1 := n0_; have HO236 := n1_; have HO239 := n2_; have HB := n3_; clear n0_ n1_ n2_ n3_; (try clear hb); (try clear hb2); (try clear hk); (try clear hi)))
     go_ret
     exact ⟨by first | rfl | (simp [zal, zam] <;> rfl) | (simp [*, zal, zam] <;> rfl), by repeat (first | (with_reducible first | exact HB.out | apply zae | apply zab | apply zad) | exact HB.out)⟩

end Go.Proofs.YtdmlgligljagoaaDoor.PS

set_option linter.unusedVariables false
set_option linter.unusedSimpArgs false
namespace Go.Proofs.YtdmlgligljagoaaDoor
open Go.RowKit Go.Proofs.YtdmlgligljagoaaDoorW.PrintWords PS

theorem itoa_digit (n : Nat) (h : n < 10) : Lib.itoa (n : Int) = [UInt8.ofNat (48 + n)] := by rw [Lib.itoa_nonneg, Lib.decDigits_one h]
theorem itoa_m1 : Lib.itoa (-1) = [45, 49] := by
  have := Lib.itoa_neg 1 (by omega)
  rw [show (-((1 : Nat) : Int)) = -1 from rfl] at this
  rw [this, Lib.decDigits_one (by omega)]; rfl
def fc1 : S36 := ⟨2, 0, 0, ⟨1, ⟨#[97]⟩, ⟨#[]⟩, ⟨#[]⟩, [], 0, 0, []⟩, ⟨#[]⟩⟩
def fc2 : S36 := ⟨2, 0, 0, ⟨3, ⟨#[97]⟩, ⟨#[107]⟩, ⟨#[100]⟩, [⟨⟨#[116]⟩, ⟨#[120]⟩⟩], 0, 0, []⟩, ⟨#[]⟩⟩
def fc3 : S36 := ⟨2, 0, 0, ⟨18, ⟨#[]⟩, ⟨#[]⟩, ⟨#[]⟩, [], 0, 3, [0, 2]⟩, ⟨#[]⟩⟩
def ftext : List UInt8 := [109, 97, 107, 101, 32, 34, 97, 34, 10, 112, 117, 116, 32, 34, 97, 34, 32, 34, 107, 34, 32, 34, 100, 34, 32, 34, 116, 34, 32, 34, 120, 34, 10, 35, 10, 99, 114, 97, 115, 104, 32, 51, 32, 48, 32, 50]
theorem fl1 : lineT fc1 = [109, 97, 107, 101, 32, 34, 97, 34] := by decide +kernel
theorem fl2 : lineT fc2 = [112, 117, 116, 32, 34, 97, 34, 32, 34, 107, 34, 32, 34, 100, 34, 32, 34, 116, 34, 32, 34, 120, 34] := by decide +kernel
theorem fl3 : lineT fc3 = [99, 114, 97, 115, 104, 32, 51, 32, 48, 32, 50] := by
  have e3 : Lib.itoa 3 = [51] := itoa_digit 3 (by omega)
  have e0 : Lib.itoa 0 = [48] := itoa_digit 0 (by omega)
  have e2 : Lib.itoa 2 = [50] := itoa_digit 2 (by omega)
  have hp : partsV [110, 108] fc3.f3 = [bs (Lib.itoa 3), bs (Lib.itoa 0), bs (Lib.itoa 2)] := rfl
  have hs : stepL fc3.f3 = joinSp (⟨#[99, 114, 97, 115, 104]⟩ :: partsV [110, 108] fc3.f3) := rfl
  show (stepL fc3.f3).data.toList = _
  rw [hs, hp, e3, e0, e2]
  decide +kernel
theorem fcI (c : S36) (h : c = fc1 ∨ c = fc2 ∨ c = fc3) : KindOK c ∧ CmdI c ∧ clearC c = c := by
  rcases h with rfl | rfl | rfl
  · exact ⟨.inr (.inl ⟨rfl, by decide, by decide⟩), ⟨I64_0, I64_0, I64_0, I64_0, fun x hx => by simp [fc1] at hx⟩, rfl⟩
  · exact ⟨.inr (.inl ⟨rfl, by decide, by decide⟩), ⟨I64_0, I64_0, I64_0, I64_0, fun x hx => by simp [fc2] at hx⟩, rfl⟩
  · exact ⟨.inr (.inl ⟨rfl, by decide, by decide⟩), ⟨I64_0, I64_0, I64_0, by unfold I64; decide, fun x hx => by
      simp only [fc3, List.mem_cons, List.not_mem_nil, or_false] at hx
      rcases hx with rfl | rfl <;> (unfold I64; decide)⟩, rfl⟩
theorem fparse : parseV ftext = ([fc1, fc2, fc3], 0) := by
  have hs : zax ftext = [lineT fc1, lineT fc2, [35], lineT fc3] := by rw [fl1, fl2, fl3]; decide +kernel
  have hl : longV ftext = false := by decide +kernel
  obtain ⟨k1, i1, e1⟩ := fcI fc1 (.inl rfl)
  obtain ⟨k2, i2, e2⟩ := fcI fc2 (.inr (.inl rfl))
  obtain ⟨k3, i3, e3⟩ := fcI fc3 (.inr (.inr rfl))
  have g1 := parseG_lines [fc1, fc2] (fun c hc => by
    simp only [List.mem_cons, List.not_mem_nil, or_false] at hc
    rcases hc with rfl | rfl
    · exact ⟨k1, i1⟩
    · exact ⟨k2, i2⟩)
  have g3 := parseG_lines [fc3] (fun c hc => by rw [List.mem_singleton] at hc; subst hc; exact ⟨k3, i3⟩)
  unfold parseV
  rw [hl, if_neg (by simp), hs, show [lineT fc1, lineT fc2, [35], lineT fc3] = [fc1, fc2].map lineT ++ ([[35]] ++ [fc3].map lineT) from rfl, parseG_app, parseG_app, g1, g3]
  simp only [Option.bind_some, List.map_cons, List.map_nil, e1, e2, e3]
  rfl
theorem f03 : parseV [102, 97, 108, 108, 32, 48, 51] = ([], 110) := by
  have hb := fall_bad [48, 51] (by decide) (by simp) (by decide) (fun m _ e => by have := itoa_zero_head e.symm; simp at this)
  rw [parse_one (s := [102, 97, 108, 108, 32, 48, 51]) (by decide) (by simp) (by decide) (by decide)]
  rw [if_neg (by rw [show ([102, 97, 108, 108, 32, 48, 51] : List UInt8) = bFall ++ 32 :: [48, 51] from rfl, hb]; simp)]
def fp1 : S36 := ⟨2, 0, 0, ⟨17, ⟨#[]⟩, ⟨#[]⟩, ⟨#[]⟩, [], 0, -1, []⟩, ⟨#[]⟩⟩
def fp2 : S36 := ⟨4, 0, 0, ⟨0, ⟨#[]⟩, ⟨#[]⟩, ⟨#[]⟩, [], 0, 0, []⟩, ⟨#[]⟩⟩
def fp3 : S36 := ⟨6, 0, 0, ⟨0, ⟨#[]⟩, ⟨#[]⟩, ⟨#[]⟩, [], 0, 0, []⟩, ⟨#[]⟩⟩
theorem flp1 : lineT fp1 = [102, 97, 108, 108, 32, 45, 49] := by
  have hs : stepL fp1.f3 = joinSp (⟨#[102, 97, 108, 108]⟩ :: [bs (Lib.itoa (-1))]) := rfl
  show (stepL fp1.f3).data.toList = _
  rw [hs, itoa_m1]
  decide +kernel
theorem flp2 : lineT fp2 = [100, 105, 103, 101, 115, 116] := rfl
theorem ftx : textT [fp1, fp2] = [102, 97, 108, 108, 32, 45, 49, 10, 100, 105, 103, 101, 115, 116, 10] := by
  show lineT fp1 ++ [10] ++ (lineT fp2 ++ [10] ++ []) = _
  rw [flp1, flp2]; rfl
theorem fprint : script_Print.f [fp1, fp2] = some (bs [102, 97, 108, 108, 32, 45, 49, 10, 100, 105, 103, 101, 115, 116, 10], 0) := by
  have hok : PrintOK [fp1, fp2] := by
    refine ⟨fun c hc => ?_, by rw [ftx]; decide⟩
    simp only [List.mem_cons, List.not_mem_nil, or_false] at hc
    rcases hc with rfl | rfl
    · exact ⟨I64_0, I64_0, I64_0, by unfold I64; decide, fun x hx => by simp [fp1] at hx, by rw [flp1]; decide⟩
    · exact ⟨I64_0, I64_0, I64_0, I64_0, fun x hx => by simp [fp2] at hx, by rw [flp2]; decide⟩
  have hv : printV [fp1, fp2] = ([102, 97, 108, 108, 32, 45, 49, 10, 100, 105, 103, 101, 115, 116, 10], 0) := by
    rw [printV_ok _ (fun c hc => by
      simp only [List.mem_cons, List.not_mem_nil, or_false] at hc
      rcases hc with rfl | rfl
      · exact .inr (.inl ⟨rfl, by decide, by decide⟩)
      · exact .inr (.inr (.inr (.inl rfl)))), ftx, if_neg (by decide +kernel)]
  unfold script_Print.f
  rw [if_pos hok, hv]
theorem fprint3 : script_Print.f [fp3] = some (bs [], 110) := by
  have hok : PrintOK [fp3] := by
    refine ⟨fun c hc => ?_, by decide +kernel⟩
    rw [List.mem_singleton] at hc; subst hc
    exact ⟨I64_0, I64_0, I64_0, I64_0, fun x hx => by simp [fp3] at hx, by decide +kernel⟩
  have hv : printV [fp3] = ([], 110) := printV_bad _ (fun h => absurd (h fp3 List.mem_cons_self) (by decide))
  unfold script_Print.f
  rw [if_pos hok, hv]
theorem first_ev : Ev (fun k => cofferlaw22_first.f k) true := by
  have p1 := parse_ev ftext
  rw [fparse] at p1
  have p2 := parse_ev [102, 97, 108, 108, 32, 48, 51]
  rw [f03] at p2
  have q := quote_ev [0, 34, 97] (by decide)
  rw [show zaz [0, 34, 97] = [34, 92, 120, 48, 48, 92, 34, 97, 34] from by decide +kernel] at q
  have t := told_ev [fc1, fc2, fc3] (parse_short fparse)
  have s := same_is ([fc1, fc2, fc3].map toldC) ([fc1, fc2, fc3].map toldC) (told_short (parse_short fparse))
  rw [decide_eq_true rfl] at s
  unfold cofferlaw22_first.f
  refine Ev.bind p1 (Ev.bind p2 ?_)
  refine Ev.congr (f := fun k => (script_Quote.f k (bs [0, 34, 97])).bind fun t => cofferlaw22_first.j0 k [fc1, fc2, fc3] (t.toList != ([34, 92, 120, 48, 48, 92, 34, 97, 34] : List UInt8))) (fun k => ?_) (Ev.bind q ?_)
  · show (script_Print.f [fp1, fp2]).bind _ = _
    rw [fprint, Option.bind_some]
    show (script_Print.f [fp3]).bind _ = _
    rw [fprint3, Option.bind_some]
    dsimp only
    rw [if_pos rfl, if_pos rfl, if_pos rfl, if_pos (zbi _), if_pos rfl, if_pos (by decide)]
    rfl
  · refine Ev.step (f := fun k => (cofferlaw22_told.f k [fc1, fc2, fc3]).bind fun t => (cofferref22_Same.f t ([fc1, fc2, fc3].map toldC)).bind fun b => if b = true then some true else some false) (fun k => ?_) (Ev.bind t ?_)
    · rw [cofferlaw22_first.j0, if_neg (by rw [zbi]; decide)]
      rfl
    · exact Ev.congr (fun k => by rw [s, Option.bind_some, if_pos rfl]) (Ev.now true)
theorem first_is : ∃ k, cofferlaw22_first.f k = some true := Ev.rounds first_ev
end Go.Proofs.YtdmlgligljagoaaDoor

set_option linter.unusedVariables false
set_option linter.unusedSimpArgs false
namespace Go.Proofs.YtdmlgligljagoaaDoor
open Go.RowKit

theorem u8_of_wf {n : Int} (h : (Lit.int .u8 n).wf = true) : 0 ≤ n ∧ n ≤ 255 := by
  simp only [Lit.wf, IntKind.min, IntKind.max, IntKind.signed, IntKind.bits, Bool.and_eq_true, decide_eq_true_eq] at h
  obtain ⟨h1, h2⟩ := h
  exact ⟨by simpa using h1, by have := h2; simp at this; omega⟩
end Go.Proofs.YtdmlgligljagoaaDoor

set_option linter.unusedVariables false
set_option linter.unusedSimpArgs false
namespace Go.Proofs.YtdmlgligljagoaaDoor
open Go.RowKit Go.Proofs.YtdmlgligljagoaaDoorW.PrintWords PS

def n1 (n : Int) : S36 := ⟨2, 0, 0, ⟨17, ⟨#[]⟩, ⟨#[]⟩, ⟨#[]⟩, [], 0, n, []⟩, ⟨#[]⟩⟩
def n2 (s : Int) : S36 := ⟨2, 0, 0, ⟨12, ⟨#[]⟩, ⟨#[]⟩, ⟨#[]⟩, [], s, 0, []⟩, ⟨#[]⟩⟩
def ten (d : List UInt8) : List (List UInt8) := [bFall ++ 32 :: 48 :: d, bFall ++ 32 :: 43 :: d, bFall ++ 32 :: 32 :: d, bFall ++ 32 :: (d ++ [32]), bFall ++ 32 :: 34 :: (d ++ [34]), bFall, bFall ++ 32 :: (d ++ 32 :: d),
  bFall ++ 32 :: [57, 50, 50, 51, 51, 55, 50, 48, 51, 54, 56, 53, 52, 55, 55, 53, 56, 48, 56], bFall ++ 32 :: 45 :: [57, 50, 50, 51, 51, 55, 50, 48, 51, 54, 56, 53, 52, 55, 55, 53, 56, 48, 57], bFall ++ 32 :: [45, 48]]
end Go.Proofs.YtdmlgligljagoaaDoor

set_option linter.unusedVariables false
set_option linter.unusedSimpArgs false
namespace Go.Proofs.YtdmlgligljagoaaDoor
open Go.RowKit Go.Proofs.YtdmlgligljagoaaDoorW.PrintWords PS

/-- string([]byte{x, y}), the slice new. -/
theorem conv2 {P : Program} {src dst e : TypeId} (hs : P.underlying src = some (.slice e)) (he : P.underlying e = some (.int .u8)) (hd : P.underlying dst = some .string) (W : World) (x y : Int) (t : TypeId) :
    (convert src dst (.slice (some ⟨W.heap.size, 0, none⟩) 2 2)).run P (W.alloc (.cells #[.int .u8 x, .int .u8 y] t)).drew = .ok (.string (bs [b8 x, b8 y])) (W.alloc (.cells #[.int .u8 x, .int .u8 y] t)).drew :=
  run_convert_bytes_arg _ src e hs he W.heap.size 0 2 2 [x, y] rfl (fun i hi => by
    match i, hi with
    | 0, _ => simp [go_sem]
    | 1, _ => simp [go_sem]) dst hd
/-- string([]byte{x}), the slice new. -/
theorem conv1_drew {P : Program} {src dst e : TypeId} (hs : P.underlying src = some (.slice e)) (he : P.underlying e = some (.int .u8)) (hd : P.underlying dst = some .string) (W : World) (x : Int) (t : TypeId) :
    (convert src dst (.slice (some ⟨W.heap.size, 0, none⟩) 1 1)).run P (W.alloc (.cells #[.int .u8 x] t)).drew = .ok (.string (bs [b8 x])) (W.alloc (.cells #[.int .u8 x] t)).drew :=
  run_convert_bytes_arg _ src e hs he W.heap.size 0 1 1 [x] rfl (fun i hi => by
    obtain rfl : i = 0 := by omega
    simp [go_sem]) dst hd
theorem dig_hx (i : Nat) (p : i < (⟨#[48, 49, 50, 51, 52, 53, 54, 55, 56, 57, 97, 98, 99, 100, 101, 102]⟩ : ByteArray).size) : b8 (((⟨#[48, 49, 50, 51, 52, 53, 54, 55, 56, 57, 97, 98, 99, 100, 101, 102]⟩ : ByteArray)[i]'p).toNat : Int) = hx i := by
  have h : ∀ j : Fin 16, b8 (((⟨#[48, 49, 50, 51, 52, 53, 54, 55, 56, 57, 97, 98, 99, 100, 101, 102]⟩ : ByteArray)[j.val]'j.isLt).toNat : Int) = hx j.val := by decide +kernel
  exact h ⟨i, p⟩
theorem hex_next (L : List UInt8) (k : Nat) (h : k < L.length) (E : List UInt8) (hE : (L.take k).flatMap hexB = E) (h0 : k < (bs L).size) (p1 : (bs L)[k].toNat / 16 % 256 < (⟨#[48, 49, 50, 51, 52, 53, 54, 55, 56, 57, 97, 98, 99, 100, 101, 102]⟩ : ByteArray).size) (p2 : (bs L)[k].toNat % 16 < (⟨#[48, 49, 50, 51, 52, 53, 54, 55, 56, 57, 97, 98, 99, 100, 101, 102]⟩ : ByteArray).size) :
    bs (34 :: E) ++ (⟨#[92, 120]⟩ : ByteArray) ++ bs [b8 (((⟨#[48, 49, 50, 51, 52, 53, 54, 55, 56, 57, 97, 98, 99, 100, 101, 102]⟩ : ByteArray)[(bs L)[k].toNat / 16 % 256]'p1).toNat : Int), b8 (((⟨#[48, 49, 50, 51, 52, 53, 54, 55, 56, 57, 97, 98, 99, 100, 101, 102]⟩ : ByteArray)[(bs L)[k].toNat % 16]'p2).toNat : Int)] = bs (34 :: (L.take (k + 1)).flatMap hexB) := by
  rw [dig_hx, dig_hx, List.take_succ_eq_append_getElem h, List.flatMap_append, hE]
  have e : (bs L)[k] = L[k] := rfl
  have e2 : (bs L)[k].toNat / 16 % 256 = L[k].toNat / 16 := by rw [e]; have := L[k].toNat_lt; omega
  rw [e2, e, show (⟨#[92, 120]⟩ : ByteArray) = bs [92, 120] from rfl, zbb, zbb]
  simp [hexB]
  rfl
/-- the place at which the longest text is broken -/
theorem at_is2 (x1 : Int) (n : Nat) (hn : n ≤ 2000) : ∃ m, m ≤ n ∧ wrap64 (1 + (wrap64 (4 * (wrap64 (Int.tmod (IntKind.u64.wrap (x1)) ((n : Int) + 1)))))) = ((1 + 4 * m : Nat) : Int) := by
  have hu : ∀ z : Int, IntKind.u64.wrap z = z % 18446744073709551616 := fun z => by first | rfl | simp [IntKind.wrap]
  have h3 : 0 ≤ IntKind.u64.wrap x1 := by rw [hu]; omega
  generalize IntKind.u64.wrap x1 = y at h3
  have h4 : Int.tmod y ((n : Int) + 1) = y % ((n : Int) + 1) := Int.tmod_eq_emod_of_nonneg h3
  have h5 : 0 ≤ y % ((n : Int) + 1) := Int.emod_nonneg _ (by omega)
  have h6 : y % ((n : Int) + 1) < ((n : Int) + 1) := Int.emod_lt_of_pos _ (by omega)
  rw [h4]
  generalize y % ((n : Int) + 1) = z at h5 h6
  refine ⟨z.toNat, by omega, ?_⟩
  unfold wrap64
  omega
attribute [local go_sem] zav zbb zbi
set_option maxRecDepth 100000 in
set_option maxHeartbeats 4000000 in
theorem scriptQuotes_any (s : ByteArray) (L : List UInt8) (x1 x2 : Int) (hs2 : (2000 < s.size ∧ s.extract 0 2000 = bs L) ∨ (s.size ≤ 2000 ∧ s = bs L)) (hs : s.size ≤ 140737488355328) (hL : L.length ≤ 2000) (h2 : 0 ≤ x2 ∧ x2 ≤ 255) (w : World) (hT : Tab w) :
    Calls Tryd.prog 6 #[.string s, .int .i64 x1, .int .u8 x2] w fun e w' => e = .returned (.bool true) ∧ Below w.heap.size w w' := by
  obtain ⟨kf, hkf⟩ := first_is
  obtain ⟨kq, hkq⟩ := quote_is L (by omega)
  have HF := Lib.hid (cofferlaw22_first.calls kf true w hT hkf)
  have HT := Lib.hid hT
  have HQ := Lib.hid hkq
  clear hkf hT hkq
  have HB0 := Lib.hid (Below.refl w.heap.size w)
  go_enter Tryd.func6, Tryd.ntmps6
  go_wp2_with fail
  refine HF.out.mono ?_
  rintro e w1 ⟨rfl, hb1⟩
  have HB1 := Lib.hid hb1
  clear hb1 HB0 HF
  go_upto_if 28 with (fail)
  go_cut [0] (fun v0 wc => v0 = .string (bs L) ∧ wc = w1)
  case first =>
    rcases hs2 with ⟨hc, he⟩ | ⟨hc, he⟩
    · have c1 : decide ((2000 : Int) < (s.size : Int)) = true := by simp; omega
      have c2 : 2000 ≤ s.size := by omega
      have c3 : (2000 : Int) ≤ (s.size : Int) := by omega
      go_wp2
      go_meet
      case rel => exact ⟨by first | exact congrArg Value.string he | rfl, rfl⟩
    · have c1 : decide ((2000 : Int) < (s.size : Int)) = false := by simp; omega
      go_wp2
      go_meet
      case rel => exact ⟨by first | exact congrArg Value.string he | rfl, rfl⟩
  case rest =>
    clear hs2
    obtain ⟨rfl, rfl⟩ := hcut
    go_wp2_with fail
    refine (script_Quote.calls kq (bs L) (bs (zaz L)) _ HQ.out).mono ?_
    rintro e w2 ⟨rfl, hb2⟩
    have HB2 := Lib.hid (HB1.out.trans (hb2.mono HB1.out.size))
    clear hb2 HQ HB1
    have hql := (quoteL_len L).2
    have HQm := Lib.hid (quoteL_mem L)
    have HP1 := Lib.hid (quoteL_parse L hL)
    generalize zaz L = q at *
    go_wp2_with fail
    go_loopw [8, 9] (fun v8 v9 wx => ∃ k : Nat, k ≤ L.length ∧ v8 = .string (bs (34 :: (L.take k).flatMap hexB)) ∧ v9 = .int .i64 (k : Int) ∧ Hid (Below w.heap.size w wx)) (fun _ i _ => L.length - (intOf i).toNat)
    case atStart => exact ⟨0, Nat.zero_le _, rfl, rfl, HB2⟩
    case round =>
      obtain ⟨k, hk, rfl, rfl, HBx⟩ := hrel
      by_cases hlt : k < L.length
      · have hc0 : (k : Int) < (L.length : Int) := by omega
        have hE := hexB_len (L.take k)
        rw [List.length_take, Nat.min_eq_left hk] at hE
        have hEs : ¬ 9223372036854775807 < ((L.take k).flatMap hexB).length + 1 + 2 := by omega
        have hEs2 : ¬ 9223372036854775807 < ((L.take k).flatMap hexB).length + 1 + 2 + 2 := by omega
        have hcv := fun (W : World) (x y : Int) (t : TypeId) => conv2 (P := Tryd.prog) (src := 49) (dst := 9) Tryd.underlying49 Tryd.underlying5 Tryd.underlying9 W x y t
        have hks : k < (bs L).size := by rw [zav]; exact hlt
        have hr1 : ((bs L)[k].toNat : Int) % 16 < 16 := by omega
        have hr0 : 0 ≤ ((bs L)[k].toNat : Int) % 16 := by omega
        have hr2 : ((bs L)[k].toNat : Int) / 16 % 256 < 16 := by have := (bs L)[k].toNat_lt; omega
        have hr3 : 0 ≤ ((bs L)[k].toNat : Int) / 16 % 256 := by omega
        have HE := Lib.hid hE
        clear hE
        generalize hEe : (L.take k).flatMap hexB = E at *
        have HEe := Lib.hid hEe
        clear hEe
        go_wp2
        go_region
        go_wp2
        go_roundw
        case rel => exact ⟨k + 1, by omega, congrArg Value.string (hex_next L k hlt E HEe.out hks _ _), by go_num, Lib.hid (zbl (HBx.out.alloc HBx.out.size _))⟩
        case measure => simp [intOf]; omega
      · obtain rfl : k = L.length := by omega
        have hll := longL_len L
        have hlong : bs (34 :: (L.take L.length).flatMap hexB) ++ (⟨#[34]⟩ : ByteArray) = bs (longL L) := by rw [List.take_length, show (⟨#[34]⟩ : ByteArray) = bs [34] from rfl, zbb]; rfl
        have HLong := Lib.hid hlong
        have hE := hexB_len (L.take L.length)
        rw [List.take_length] at hE
        have hEs : ¬ 9223372036854775807 < (((L.take L.length).flatMap hexB).length + 1) + 1 := by rw [List.take_length]; omega
        have HP2 := Lib.hid (longL_parse L hL)
        have HBr := Lib.hid (fun (x : List UInt8) (m : Nat) (hm : m ≤ L.length) => longL_break L x m hm hL)
        have HOp := Lib.hid (longL_open L hL)
        clear hlong hE
        generalize (L.take L.length).flatMap hexB = E at *
        have hqk : ∀ (i : Nat) (h : i < (bs q).size), 32 ≤ (bs q)[i].toNat ∧ (bs q)[i].toNat ≤ 126 := fun i h => HQm.out _ (List.getElem_mem (show i < q.length by rw [← zav]; exact h))
        have HQk := Lib.hid hqk
        clear hqk HQm
        generalize hG : longL L = G at *
        have HG := Lib.hid hG
        clear hG
        go_wp2
        rw [HLong.out]
        clear hEs HLong
        obtain ⟨k1, hk1⟩ := parse_is (bMake ++ q)
        rw [HP1.out] at hk1
        have HK1 := Lib.hid (show script_Parse.f k1 ((⟨#[109, 97, 107, 101, 32]⟩ : ByteArray) ++ bs q) = some ([mkC L], 0) by rw [show (⟨#[109, 97, 107, 101, 32]⟩ : ByteArray) = bs bMake from rfl, zbb]; exact hk1)
        obtain ⟨k2, hk2⟩ := parse_is (bMake ++ G)
        rw [HP2.out] at hk2
        have HK2 := Lib.hid (show script_Parse.f k2 ((⟨#[109, 97, 107, 101, 32]⟩ : ByteArray) ++ bs G) = some ([mkC L], 0) by rw [show (⟨#[109, 97, 107, 101, 32]⟩ : ByteArray) = bs bMake from rfl, zbb]; exact hk2)
        clear hk1 hk2 HP1 HP2
        go_loop [10] (fun v => ∃ i : Nat, i ≤ q.length ∧ v = .int .i64 (i : Int)) (fun v => q.length - (intOf v).toNat)
        case atStart => exact ⟨0, Nat.zero_le _, rfl⟩
        case round =>
          obtain ⟨i, hi, rfl⟩ := hrel
          by_cases hlt : i < q.length
          · have hlt' : i < (bs q).size := by rw [zav]; exact hlt
            have hc1 : (i : Int) < (q.length : Int) := by omega
            obtain ⟨h1, h2⟩ := HQk.out i hlt'
            have c1 : decide (((bs q)[i].toNat : Int) < 32) = false := by simp; omega
            have c2 : decide ((126 : Int) < ((bs q)[i].toNat : Int)) = false := by simp; omega
            go_wp2
            go_round
            case rel => exact ⟨i + 1, by omega, by go_num⟩
            case measure => simp [intOf]; omega
          · obtain rfl : i = q.length := by omega
            have s1 : ¬ 9223372036854775807 < 5 + q.length := by omega
            have s2 : ¬ 9223372036854775807 < 5 + G.length := by omega
            go_wp2_with fail
            refine (script_Parse.calls k1 _ [mkC L] 0 _ (zay HT.out HBx.out) HK1.out).mono ?_
            rintro e w3 ⟨v3, rfl, hS3, hb3⟩
            have HB3 := Lib.hid (HBx.out.trans (hb3.mono HBx.out.size))
            clear hb3
            obtain ⟨g3, c3, rfl, _⟩ := Kd.S_form hS3 (show 0 < 1 by decide)
            obtain ⟨_, _, hC3⟩ := Kd.S_reads' hS3
            have HC3 := Lib.hid hC3
            clear hS3 hC3
            go_wp2_with fail
            refine (script_Parse.calls k2 _ [mkC L] 0 _ (zay HT.out HB3.out) HK2.out).mono ?_
            rintro e w4 ⟨v4, rfl, hS4, hb4⟩
            have HC4 := Lib.hid (Kd.C_below HC3.out hb4)
            have HB4 := Lib.hid (HB3.out.trans (hb4.mono HB3.out.size))
            clear hb4
            obtain ⟨g4, c4, rfl, _⟩ := Kd.S_form hS4 (show 0 < 1 by decide)
            obtain ⟨_, _, hC5⟩ := Kd.S_reads' hS4
            obtain ⟨ad, A7, c7, A10, c10, hA, _, _, _, _, a4, _⟩ := at_T36 HC4.out 0 (by decide) (show (0 : Int) < 1 by decide)
            obtain ⟨bd, B7, d7, B10, d10, hB, _, _, _, _, e4, _⟩ := at_T36 hC5 0 (by decide) (show (0 : Int) < 1 by decide)
            cases hA
            cases hB
            have q1 : w4.cell? ⟨g3, 4, none⟩ = some (.string (bs L)) := a4
            have q2 : w4.cell? ⟨g4, 4, none⟩ = some (.string (bs L)) := e4
            have c1 : decide (G.length < q.length) = false := by simp; omega
            have c2 : decide ((G.length : Int) < (q.length : Int)) = false := by simp; omega
            clear a4 e4 hS4 hC5
            go_upto_region 21 with (fail)
            clear q1 q2 c1 c2
            go_upto_region 22 with (fail)
            obtain ⟨m, hm, hK⟩ := at_is2 x1 L.length hL
            rw [hK]
            clear hK
            have HLl := Lib.hid hll
            have hp0 : 1 + 4 * m ≤ G.length := by omega
            have hGl : G.length ≤ 8002 := by omega
            have j1 := HBr.out [92, 113] m hm bad_q (by decide) (by decide)
            have j2 := HBr.out [92, 120, 65, 48] m hm bad_x (by decide) (by decide)
            have HJ3 := Lib.hid (fun (c : UInt8) (hr : c.toNat < 32 ∨ 126 < c.toNat) (h10 : c ≠ 10) => HBr.out [c] m hm (fun r => bad_b c r hr) (fun d hd => by rw [List.mem_singleton] at hd; subst hd; exact h10) (by simp))
            have hx3 : (bs G).extract 0 (G.length - 1) = bs (G.take (4 * L.length + 1)) := by rw [bs_extract, hll]; rfl
            have j4 := HOp.out
            clear hll HBr HOp
            generalize 1 + 4 * m = p at *
            have hx1 : (bs G).extract 0 p = bs (G.take p) := by rw [bs_extract]; rfl
            have hx2 : (bs G).extract p G.length = bs (G.drop p) := by rw [bs_extract, take_drop_len]
            have hAl : (G.take p).length ≤ 8002 := by rw [List.length_take]; omega
            have hBl : (G.drop p).length ≤ 8002 := by rw [List.length_drop]; omega
            have hOl : (G.take (4 * L.length + 1)).length ≤ 8002 := by rw [List.length_take]; omega
            generalize G.take p = A at *
            generalize G.drop p = B at *
            generalize G.take (4 * L.length + 1) = O at *
            obtain ⟨k5, hk5⟩ := parse_is (bMake ++ (A ++ [92, 113] ++ B))
            rw [j1] at hk5
            have HK5 := Lib.hid (show script_Parse.f k5 ((⟨#[109, 97, 107, 101, 32]⟩ : ByteArray) ++ bs A ++ (⟨#[92, 113]⟩ : ByteArray) ++ bs B) = some ([], 110) by rw [show (⟨#[109, 97, 107, 101, 32]⟩ : ByteArray) = bs bMake from rfl, show (⟨#[92, 113]⟩ : ByteArray) = bs [92, 113] from rfl, zbb, zbb, zbb, List.append_assoc, List.append_assoc, ← List.append_assoc A]; exact hk5)
            obtain ⟨k6, hk6⟩ := parse_is (bMake ++ O)
            rw [j4] at hk6
            have HK6 := Lib.hid (show script_Parse.f k6 ((⟨#[109, 97, 107, 101, 32]⟩ : ByteArray) ++ bs O) = some ([], 110) by rw [show (⟨#[109, 97, 107, 101, 32]⟩ : ByteArray) = bs bMake from rfl, zbb]; exact hk6)
            obtain ⟨k7, hk7⟩ := parse_is (bMake ++ (A ++ [92, 120, 65, 48] ++ B))
            rw [j2] at hk7
            have HK7 := Lib.hid (show script_Parse.f k7 ((⟨#[109, 97, 107, 101, 32]⟩ : ByteArray) ++ bs A ++ (⟨#[92, 120, 65, 48]⟩ : ByteArray) ++ bs B) = some ([], 110) by rw [show (⟨#[109, 97, 107, 101, 32]⟩ : ByteArray) = bs bMake from rfl, show (⟨#[92, 120, 65, 48]⟩ : ByteArray) = bs [92, 120, 65, 48] from rfl, zbb, zbb, zbb, List.append_assoc, List.append_assoc, ← List.append_assoc A]; exact hk7)
            clear hk5 hk6 hk7 j1 j2 j4
            have t1 : (p : Int) ≤ (G.length : Int) := by omega
            have t2 : ¬ 9223372036854775807 < 5 + A.length := by omega
            have t3 : ¬ 9223372036854775807 < 5 + A.length + 2 := by omega
            have t4 : ¬ 9223372036854775807 < 5 + A.length + 2 + B.length := by omega
            go_region_with (go_at_call 18; (with_reducible refine (script_Parse.calls k5 _ [] 110 _ (zay HT.out (zbl HB4.out)) HK5.out).mono ?_); rintro e w5 ⟨v5, rfl, _, hb5⟩)
            have HB5 := Lib.hid ((zbl HB4.out).trans (hb5.mono HB4.out.size))
            clear hb5 HK5 t2 t3 t4
            have t2 : ¬ 9223372036854775807 < 5 + O.length := by omega
            have t3 : 1 ≤ G.length := by have := HLl.out; omega
            have t4 : (1 : Int) ≤ (G.length : Int) := by omega
            go_wp2_with fail
            refine (script_Parse.calls k6 _ [] 110 _ (zay HT.out HB5.out) HK6.out).mono ?_
            rintro e w6 ⟨v6, rfl, _, hb6⟩
            have HB6 := Lib.hid (HB5.out.trans (hb6.mono HB5.out.size))
            clear hb6 HK6 t2 t3 t4 hx3
            have t2 : ¬ 9223372036854775807 < 5 + A.length := by omega
            have t3 : ¬ 9223372036854775807 < 5 + A.length + 4 := by omega
            have t4 : ¬ 9223372036854775807 < 5 + A.length + 4 + B.length := by omega
            go_wp2_with fail
            go_region_with (go_at_call 18; (with_reducible refine (script_Parse.calls k7 _ [] 110 _ (zay HT.out (zbl HB6.out)) HK7.out).mono ?_); rintro e w7 ⟨v7, rfl, _, hb7⟩)
            have HB7 := Lib.hid ((zbl HB6.out).trans (hb7.mono HB6.out.size))
            clear hb7 HK7 t3 t4
            go_upto_region 27 with (fail)
            by_cases h10 : x2 = 10
            · subst h10
              go_wp2
              go_ret
              exact ⟨rfl, HB7.out⟩
            · have c3 : (x2 == 10) = false := beq_eq_false_iff_ne.2 h10
              by_cases hin : 32 ≤ x2 ∧ x2 ≤ 126
              · obtain ⟨i1, i2⟩ := hin
                have c1 : decide (32 ≤ x2) = true := by simp; omega
                have c2 : decide (x2 ≤ 126) = true := by simp; omega
                go_wp2
                go_ret
                exact ⟨rfl, HB7.out⟩
              · have hx : (b8 x2).toNat = x2.toNat := by unfold b8; rw [UInt8.toNat_ofNat']; omega
                have hne : b8 x2 ≠ 10 := fun e => h10 (by have e2 : (b8 x2).toNat = (10 : UInt8).toNat := congrArg UInt8.toNat e; have e3 : (10 : UInt8).toNat = 10 := rfl; omega)
                obtain ⟨k8, hk8⟩ := parse_is (bMake ++ (A ++ [b8 x2] ++ B))
                rw [HJ3.out (b8 x2) (by rw [hx]; omega) hne] at hk8; clear hne
                have HK8 := Lib.hid (show script_Parse.f k8 ((⟨#[109, 97, 107, 101, 32]⟩ : ByteArray) ++ bs A ++ bs [b8 x2] ++ bs B) = some ([], 110) by rw [show (⟨#[109, 97, 107, 101, 32]⟩ : ByteArray) = bs bMake from rfl, zbb, zbb, zbb, List.append_assoc, List.append_assoc, ← List.append_assoc A]; exact hk8)
                have t3 : ¬ 9223372036854775807 < 5 + A.length + 1 := by omega
                have t4 : ¬ 9223372036854775807 < 5 + A.length + 1 + B.length := by omega
                have hcd := fun (W : World) (x : Int) (t : TypeId) => conv1_drew (P := Tryd.prog) (src := 49) (dst := 9) Tryd.underlying49 Tryd.underlying5 Tryd.underlying9 W x t
                have hd : (x2 < 32 ∧ ¬ 126 < x2) ∨ (32 ≤ x2 ∧ 126 < x2) := by omega
                clear hk8 hx hin HJ3 h10
                rcases hd with ⟨i1, i2⟩ | ⟨i1, i2⟩
                · have c1 : decide (32 ≤ x2) = false := by simp; omega
                  go_wp2
                  go_region_with (go_at_call 18; (with_reducible refine (script_Parse.calls k8 _ [] 110 _ (zay HT.out (zbl (HB7.out.alloc HB7.out.size _))) HK8.out).mono ?_); rintro e w8 ⟨v8, rfl, _, hb8⟩)
                  go_wp2
                  go_ret
                  exact ⟨rfl, (zbl (HB7.out.alloc HB7.out.size _)).trans (hb8.mono (by simp; have := HB7.out.size; omega))⟩
                · have c1 : decide (32 ≤ x2) = true := by simp; omega
                  have c2 : decide (x2 ≤ 126) = false := by simp; omega
                  go_wp2
                  go_region_with (go_at_call 18; (with_reducible refine (script_Parse.calls k8 _ [] 110 _ (zay HT.out (zbl (HB7.out.alloc HB7.out.size _))) HK8.out).mono ?_); rintro e w8 ⟨v8, rfl, _, hb8⟩)
                  go_wp2
                  go_ret
                  exact ⟨rfl, (zbl (HB7.out.alloc HB7.out.size _)).trans (hb8.mono (by simp; have := HB7.out.size; omega))⟩
theorem cut_bs (s : ByteArray) : s.extract 0 2000 = bs (s.data.toList.take 2000) := by
  have h := bs_extract s.data.toList 0 2000
  rw [← bs_of s] at h
  exact h
theorem scriptQuotes_law (s : ByteArray) (x1 x2 : Int) (hs : s.size ≤ 140737488355328) (h2 : 0 ≤ x2 ∧ x2 ≤ 255) (w : World) (hT : Tab w) :
    Calls Tryd.prog 6 #[.string s, .int .i64 x1, .int .u8 x2] w fun e w' => e = .returned (.bool true) ∧ Below w.heap.size w w' := by
  have hl : s.data.toList.length = s.size := by rw [← Lib.size_eq]
  by_cases h : 2000 < s.size
  · exact scriptQuotes_any s (s.data.toList.take 2000) x1 x2 (.inl ⟨h, cut_bs s⟩) hs (by rw [List.length_take]; omega) h2 w hT
  · exact scriptQuotes_any s s.data.toList x1 x2 (.inr ⟨by omega, bs_of s⟩) hs (by omega) h2 w hT
end Go.Proofs.YtdmlgligljagoaaDoor

set_option linter.unusedVariables false
set_option linter.unusedSimpArgs false
namespace Go.Proofs.YtdmlgligljagoaaDoor
open Go.ChangeShapes Go.WideShapes Go.ChangeAt Go.RowKit
theorem own : ownKnob Tryd.prog.godebug = none := by kernel_rfl
theorem laidOut : laidOutB Tryd.prog = true := by kernel_rfl
theorem trodAll_below {H : Type} {enc : TypeId × Value → H} {W W' : World} (hb : Below W.heap.size W W') : ∀ (ts : List TypeId) (vs : List Value) (ds : List (DataW H)) (ps : List MemPlace),
    (∀ t ∈ ts, Tryd.prog.readableRec t = true ∧ t < Tryd.prog.types.size) → DataW.TrodAll enc Tryd.prog W 0 (fun _ => true) true ts vs ds ps → (∀ x ∈ ps, x.block < W.heap.size) →
    DataW.TrodAll enc Tryd.prog W' 0 (fun b => decide (b < W.heap.size)) true ts vs ds ps
  | [], [], [], _, _, h, _ => h
  | t :: ts, v :: vs, d :: ds, ps, hr, ⟨p, q, h1, h2, e⟩, hlt => by
    subst e
    have ht := hr t List.mem_cons_self
    exact ⟨p, q, Below.trod laidOut ht.1 ht.2 h1 hb (fun x hx => hlt x (List.mem_append_left _ hx)), trodAll_below hb ts vs ds q (fun x hx => hr x (List.mem_cons_of_mem _ hx)) h2 (fun x hx => hlt x (List.mem_append_right _ hx)), rfl⟩
  | [], _ :: _, _, _, _, h, _ => h.elim
  | [], [], _ :: _, _, _, h, _ => h.elim
  | _ :: _, [], _, _, _, h, _ => h.elim
  | _ :: _, _ :: _, [], _, _, h, _ => h.elim
theorem law_post {H : Type} {enc : TypeId × Value → H} {s : ChangeSpec} {f : Func} {apart fresh handsOn : Bool} {W W' : World} {args : Array Value} {ds gs : List (DataW H)} {before : List MemPlace} {tb : TypeId}
    (hvars : s.vars = []) (hr : ∀ t ∈ f.params.toList, Tryd.prog.readableRec t = true ∧ t < Tryd.prog.types.size) (hres : f.resultTypes = #[tb]) (hbool : Tryd.prog.underlying tb = some .bool)
    (hfn : (s.fn H (ds ++ gs)).results = [.lit (.bool true)] ∧ (s.fn H (ds ++ gs)).args = ds ∧ (s.fn H (ds ++ gs)).vars = [])
    (hW : DataW.Whole enc Tryd.prog f.params.toList s.vars apart W args.toList ds gs before) (hb : Below W.heap.size W W') :
    s.post enc Tryd.prog f apart fresh handsOn false W args (.bool true) W' := by
  have hW' := hW
  have hlt := hW.lt
  obtain ⟨p, q, hA, hV, rfl, hfz, hnd⟩ := hW
  refine ⟨ds, gs, _, [], p, [], hW', ?_, ?_, ?_, hb.frame _, fun h => by cases h⟩
  · rw [hfn.1, hres]
    exact trodAll_mk1 (shut_bool hbool true)
  · rw [hfn.2.1]
    exact trodAll_below hb _ _ _ _ hr hA (fun x hx => hlt x (List.mem_append_left _ hx))
  · rw [hfn.2.2, hvars]
    rfl
theorem tab_of_vars {P : Program} {W : World} {name : String} {k : IntKind} {zs : List Int} {rest : List (String × DataW Unit)} {ps : List MemPlace} {g : Nat} {t e : TypeId} {n : Nat}
    (hg : P.globalNamed name = some g) (hty : (P.globals[g]?).map (·.type) = some t) (ht : P.underlying t = some (.array n e)) (he : P.underlying e = some (.int k)) (hce : P.cellsOf e = 1) (hct : P.cellsOf t = n)
    (h : DataW.LaidVars P W ((name, Lib.tabData k zs) :: rest) ps) : Lib.TabIs P W name k zs := by
  obtain ⟨g', t', cs, fuel, p, q, hg', ht', hvar, hd, _⟩ := h
  obtain rfl := Option.some.inj (hg.symm.trans hg')
  obtain rfl := Option.some.inj (hty.symm.trans ht')
  unfold Lib.TabIs
  rw [hvar, ← Lib.cells_of_tab ht he hce hct hd]
end Go.Proofs.YtdmlgligljagoaaDoor

namespace Go.Proofs.YtdmlgligljagoaaDoor.lawScriptQuotes
open Go.ChangeShapes Go.WideShapes Go.ChangeAt Go.RowKit
open Go.ChangeMaps (open_string shut_string)
set_option linter.unusedVariables false
set_option linter.unusedSimpArgs false
noncomputable def leafs : DataW Unit → List Value
  | .lit (.int k n) => [Value.int k n]
  | .agg l => l.map fun d => match d with
    | .lit (.int k n) => Value.int k n
    | _ => undef
  | _ => [undef]
noncomputable def toCells : DataW Unit → Array Value
  | .agg l => (l.flatMap leafs).toArray
  | _ => #[]
noncomputable def setTab (h : Array Obj) (x : String × DataW Unit) : Array Obj := h.modify ((Tryd.prog.globalNamed x.1).getD 0) fun o => match o with
  | .cells _ t frozen => .cells (toCells x.2) t frozen
  | o => o
noncomputable def laidWorld (os : Os) : World :=
  { World.holding Tryd.prog os ⟨#[], #[], []⟩ with heap := List.foldl setTab (World.holding Tryd.prog os ⟨#[], #[], []⟩).heap Rows.scriptQuotesRow.laid }
theorem gTab : Tryd.prog.globalNamed "internal/strconv.uint64pow10" = some 0 := by kernel_rfl
theorem table {W : World} (h : laidMetH Tryd.prog Rows.scriptQuotesRow.laid W) (hS : W.ShapedOpen Tryd.prog) : Tab W := by
  refine ⟨?_, cell_of_shapedOpen_int (zero := #[.int .i64 0]) (t := 3) hS (of_decide_eq_true (by kernel_rfl)) (by kernel_rfl) rfl (by kernel_rfl) (by kernel_rfl) Tryd.underlying3⟩
  obtain ⟨ps, h0, _⟩ := h
  obtain ⟨_, _, _, _, _, _, _, _, _, _, h1, _⟩ := h0
  obtain ⟨_, _, _, _, _, _, _, _, _, _, h2, _⟩ := h1
  exact tab_of_vars gTab (t := 123) (n := 20) (e := 110) (by kernel_rfl) Tryd.underlying123 Tryd.underlying110 (by kernel_rfl) (by kernel_rfl) h2

set_option maxRecDepth 100000 in
theorem contract (H : Type) (enc : TypeId × Value → H) (W : World) (base : Nat) (args : Array Value) (ds gs : List (DataW H)) (before : List MemPlace)
    (hval : ∀ (j : Nat) t v, Tryd.f6.params[j]? = some t → args[j]? = some v → Value.okWide Tryd.prog W .any base t v)
    (hW : DataW.Whole enc Tryd.prog Tryd.f6.params.toList Rows.scriptQuotesSpec.vars false W args.toList ds gs before)
    (hz : (DataW.weightsEach Tryd.prog (Tryd.f6.params.toList ++ ([] : List TypeId)) (ds ++ gs)).all (· ≤ reachBytes) = true) (hL : laidMetH Tryd.prog Rows.scriptQuotesRow.laid W) (hS : W.ShapedOpen Tryd.prog) :
    Calls Tryd.prog 6 args W fun e W' => ∃ v, e = .returned v ∧ Rows.scriptQuotesSpec.post enc Tryd.prog Tryd.f6 false true false false W args v W' := by
  have hW' := hW
  obtain ⟨p, q, hA0, hV, rfl, hfz, hnd⟩ := hW
  have hA : DataW.TrodAll enc Tryd.prog W 0 (fun _ => true) true Tryd.f6.params.toList args.toList ds p := hA0
  rw [Tryd.params6] at hA hval hz
  obtain ⟨v0, vs0, d0, ds0, p0, q0, hargs, rfl, rfl, h0, r0⟩ := trodAll_cons hA
  obtain ⟨v1, vs1, d1, ds1, p1, q1, rfl, rfl, rfl, h1, r1⟩ := trodAll_cons r0
  obtain ⟨v2, vs2, d2, ds2, p2, q2, rfl, rfl, rfl, h2, r2⟩ := trodAll_cons r1
  obtain ⟨rfl, rfl, rfl⟩ := trodAll_nil r2
  obtain rfl : args = #[v0, v1, v2] := by cases args; simp_all
  obtain ⟨rfl, rfl⟩ := trodVars_none hV
  obtain ⟨a0, rfl, rfl, rfl, w0⟩ := open_string Tryd.underlying9 (hval 0 9 v0 rfl rfl) h0
  obtain ⟨a1, rfl, rfl, rfl, w1⟩ := open_int Tryd.underlying3 (hval 1 3 v1 rfl rfl) h1
  obtain ⟨a2, rfl, rfl, rfl, w2⟩ := open_int Tryd.underlying5 (hval 2 5 v2 rfl rfl) h2
  clear hA0
  have z0 : a0.size ≤ 140737488355328 := by have := sized_string hz (j := 0) rfl rfl; have e := Lib.size_eq a0; unfold reachBytes at this; omega
  have hc : Calls Tryd.prog 6 #[.string a0, .int .i64 a1, .int .u8 a2] W fun e W' => e = .returned (.bool true) ∧ Below W.heap.size W W' := scriptQuotes_law a0 a1 a2 z0 (u8_of_wf w2) W (table hL hS)
  exact hc.mono fun e W' ⟨he, hb⟩ => ⟨_, he, law_post rfl (by rw [Tryd.params6]; decide +kernel) (tb := 4) (by kernel_rfl) Tryd.underlying4 ⟨rfl, rfl, rfl⟩ hW' hb⟩

set_option maxRecDepth 100000 in
theorem laid_met (os : Os) : laidMet Tryd.prog Rows.scriptQuotesRow.laid ((laidWorld os).forCall (fun _ _ => 0) ⟨#[], #[.string ByteArray.empty, .int .i64 0, .int .u8 0], []⟩).memory :=
  laidMet_of_run' 8 (by kernel_rfl) (by kernel_rfl)
set_option maxRecDepth 100000 in
theorem reads (os : Os) {H : Type} (enc : TypeId × Value → H) : ∃ places, DataW.whole enc Tryd.prog ((laidWorld os).forCall (fun _ _ => 0) ⟨#[], #[.string ByteArray.empty, .int .i64 0, .int .u8 0], []⟩).memory Tryd.f6.params.toList Rows.scriptQuotesSpec.vars false (#[.string ByteArray.empty, .int .i64 0, .int .u8 0] : Array Value).toList 8 = some ([.lit (.string []), .lit (.int .i64 0), .lit (.int .u8 0)], [], places) :=
  ⟨[], by kernel_rfl⟩
set_option maxRecDepth 100000 in
theorem lifted (os : Os) (started : os.Started) (H : Type) (enc : TypeId × Value → H) (F : Stop.Interp) :
    ReturnsInHanded {} Tryd.checked os 6 .any ((OpenSpec.ofChange Rows.scriptQuotesSpec).preRow enc Tryd.prog Tryd.f6 Rows.scriptQuotesRow.domain false Rows.scriptQuotesRow.laid) (((OpenSpec.ofChange Rows.scriptQuotesSpec).at F).post enc Tryd.prog Tryd.f6 false true false false) := by
  obtain ⟨places, hx⟩ := reads os enc
  refine returnsInHanded_of_row (C := Tryd.checked) (s := OpenSpec.ofChange Rows.scriptQuotesSpec) own started (by kernel_rfl) Tryd.func6
    (witness_row_at (enc := enc) (C := Tryd.checked) false (laidWorld os) #[.string ByteArray.empty, .int .i64 0, .int .u8 0] rfl (by kernel_rfl) (by kernel_rfl) (by kernel_rfl)
      (OpenSpec.preRow_of_cond 8 hx (by kernel_rfl) (fun k hk => by cases hk) (by kernel_rfl) (laid_met os))) ?_
  intro W base args ds gs before hval hW _ _ hz hL hS _
  exact contract H enc W base args ds gs before hval hW hz hL hS
theorem said : Rows.ScriptQuotesSaid :=
  OpenClaim.holds_of_cond 6 Tryd.f6 rfl rfl rfl rfl rfl rfl rfl ⟨rfl, rfl, rfl, rfl, rfl⟩ rfl rfl rfl rfl rfl (by kernel_rfl) Tryd.func6 (by kernel_rfl)
    (of_decide_eq_true (by kernel_rfl)) (by unfold Func.isWrapper; first | (rw [if_pos (by decide +kernel)]; kernel_rfl) | (rw [if_neg (by decide +kernel)]; exact ⟨rfl, rfl⟩))
    (fun os started H enc _ F => by rw [OpenClaim.pre_eq_preRow]; exact lifted os started H enc F)
theorem plain (f : FuncId) (fn : Func) (hf : Tryd.pinned.checked.prog.funcNamed "coffer/cofferlaw22.ScriptQuotes" = some f) (hfn : Tryd.pinned.checked.prog.funcs[f]? = some fn) :
    false = Tryd.pinned.checked.prog.looks [] ∧ ∀ (j : Nat) t, fn.params[j]? = some t → Tryd.pinned.checked.prog.wantsStandIn t = false := by
  obtain rfl : f = 6 := Option.some.inj ((show Tryd.prog.funcNamed "coffer/cofferlaw22.ScriptQuotes" = some 6 by kernel_rfl).symm.trans hf) |>.symm
  obtain rfl : fn = Tryd.f6 := (Option.some.inj (Tryd.func6.symm.trans hfn)).symm
  refine ⟨by kernel_rfl, fun j t ht => ?_⟩
  rw [Tryd.params6] at ht
  have hm := Array.mem_of_getElem? ht
  exact of_decide_eq_true ((show ([9, 3, 5] : List TypeId).all (fun t => decide (Tryd.prog.wantsStandIn t = false)) = true by kernel_rfl) |> fun h => List.all_eq_true.1 h t (by simpa using hm))
/-- THE CARD -/
theorem proved : Rows.ScriptQuotesCardSaid :=
  Claim7.holds_tied_plain_at .later [] _ _ _ _ said (fun _ h => by cases h) (by kernel_rfl) (fun _ h => by cases h) scriptQuotes_row_tie rfl ⟨rfl, rfl⟩ (by kernel_rfl) rfl plain (by kernel_rfl)
end Go.Proofs.YtdmlgligljagoaaDoor.lawScriptQuotes

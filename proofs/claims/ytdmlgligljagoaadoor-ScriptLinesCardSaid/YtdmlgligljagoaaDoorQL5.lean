/- The machine side of some functions, printed for this claim: each function has the answers of a plain one.
Plain law: commands told as the document's.
Plain law: what is no number in its one form is refused.
Plain law: what the document gives: the first answers. -/
import Derived.Test.YtdmlgligljagoaaDoorQL4
namespace Go.Proofs.YtdmlgligljagoaaDoor.PS
open Go.RowKit Go.Proofs.YtdmlgligljagoaaDoorW.PrintWords Go.Proofs.YtdmlgligljagoaaDoorW.PrintLast Go.Proofs.YtdmlgligljagoaaDoorW.PrintMore
attribute [local go_sem] zbi zbj max_two min_two zbg zbh zbk zbl   -- for this text's walks alone
set_option linter.unusedVariables false
set_option linter.unusedSimpArgs false

/-! ### cofferlaw22_told: function 15 -/
def cofferlaw22_told.l0 : Nat → List (S36) → List (S57) → Int → Option ((List (S57)))
 | 0, _, _, _ => none
 | k + 1, x0, x3, x4 => if x4 < (x0.length : Int) then (if 0 ≤ x4 then (if ([] : List (S38)).length + ((zaf x0 x4).f3.f4).length < 4398046511104 then (if ([] : List Int).length + ((zaf x0 x4).f3.f7).length < 17592186044416 then (if x3.length < 879609302220 then (cofferlaw22_told.l0 k x0 (x3 ++ [(⟨(zaf x0 x4).f0, (zaf x0 x4).f1, (zaf x0 x4).f2, (⟨(zaf x0 x4).f3.f0, (zaf x0 x4).f3.f1, (zaf x0 x4).f3.f2, (zaf x0 x4).f3.f3, (([] : List (S38)) ++ ((zaf x0 x4).f3.f4)), (zaf x0 x4).f3.f5, (zaf x0 x4).f3.f6, (([] : List Int) ++ ((zaf x0 x4).f3.f7))⟩ : S55), (zaf x0 x4).f4⟩ : S57)]) (wrap64 (x4 + 1))) else (none)) else (none)) else (none)) else (none)) else (some x3)
def cofferlaw22_told.f (k : Nat) (l0 : List (S36)) : Option ((List (S57))) := cofferlaw22_told.l0 k l0 ([] : List (S57)) 0
theorem cofferlaw22_told.mono_l : ∀ k, (∀ y0 y1 y2, LeO (cofferlaw22_told.l0 k y0 y1 y2) (cofferlaw22_told.l0 (k + 1) y0 y1 y2))
 | 0 => fun _ _ _ r h => by simp [cofferlaw22_told.l0] at h
 | k + 1 => by
  have ih0 := cofferlaw22_told.mono_l k
  ·
   intro y0 y1 y2
   unfold cofferlaw22_told.l0
   repeat' first
   | (with_reducible exact ih0 _ _ _)
   | (with_reducible exact LeO.refl _)
   | (with_reducible exact LeO.none _)
   | (with_reducible refine LeO.ite ?_ ?_)
   | (with_reducible refine LeO.bind ?_ (fun _ => ?_))
   | exact ih0 _ _ _
   | exact LeO.none _
   | refine LeO.ite ?_ ?_
   | refine LeO.bind ?_ (fun _ => ?_)
theorem cofferlaw22_told.mono : ∀ a0 k, LeO (cofferlaw22_told.f k a0) (cofferlaw22_told.f (k + 1) a0) := by
 intro a0 k
 have ih0 := cofferlaw22_told.mono_l k
 unfold cofferlaw22_told.f
 repeat' first
   | (with_reducible exact ih0 _ _ _)
   | (with_reducible exact LeO.refl _)
   | (with_reducible exact LeO.none _)
   | (with_reducible refine LeO.ite ?_ ?_)
   | (with_reducible refine LeO.bind ?_ (fun _ => ?_))
   | exact ih0 _ _ _
   | exact LeO.none _
   | refine LeO.ite ?_ ?_
   | refine LeO.bind ?_ (fun _ => ?_)
def cofferlaw22_told.T6 : Bool × List (List Nat × List Nat) := (true, [([], []), ([0], [0]), ([], []), ([2], [2]), ([], []), ([4], [4]), ([], []), ([6], [6]), ([], []), ([8], [8]), ([9], [9]), ([], []), ([11], [11]), ([], []), ([13], [13]), ([], []), ([15], [15]), ([16, 10], [16]), ([1, 3, 5, 7, 10, 12, 14, 17], [1, 3, 5, 7, 10, 12, 14, 17]), ([], []), ([19, 18, 17, 0, 1, 2, 3, 4, 5, 6, 7, 8, 9, 10, 11, 12, 13, 14, 15, 16, 17, 18, 19], [18, 19])])
def cofferlaw22_told.B6 : List Nat := [0, 1, 0, 4, 0, 16, 0, 64, 0, 256, 768, 0, 2048, 0, 8192, 0, 32768, 100096, 262143, 0, 1048575]
theorem cofferlaw22_told.tab6 : rtab .any (opsOf Tryd.f15 6) = cofferlaw22_told.T6 := by kernel_rfl
theorem cofferlaw22_told.bits6 : waitsOk cofferlaw22_told.T6.2 cofferlaw22_told.B6 = true := by kernel_rfl
def cofferlaw22_told.T7 : Bool × List (List Nat × List Nat) := (true, [([], []), ([], []), ([], []), ([1, 2], [1, 2]), ([3], [3]), ([4], [4]), ([], []), ([], []), ([6, 7], [6, 7]), ([8], [8]), ([9], [9]), ([], []), ([], []), ([11, 12], [11, 12]), ([13], [13]), ([14], [14]), ([], []), ([], []), ([], []), ([17, 18], [17, 18]), ([19], [19]), ([20], [20]), ([5, 10, 15, 16, 21], [5, 10, 15, 16, 21]), ([22], [22]), ([0, 23], [0, 23]), ([24, 24, 0, 1, 2, 3, 4, 5, 6, 7, 8, 9, 10, 11, 12, 13, 14, 15, 16, 17, 18, 19, 20, 21, 22, 23, 24], [0, 24])])
def cofferlaw22_told.B7 : List Nat := [0, 0, 0, 6, 14, 30, 0, 0, 192, 448, 960, 0, 0, 6144, 14336, 30720, 0, 0, 0, 393216, 917504, 1966080, 4194302, 8388606, 16777215, 33554431]
theorem cofferlaw22_told.tab7 : rtab .any (opsOf Tryd.f15 7) = cofferlaw22_told.T7 := by kernel_rfl
theorem cofferlaw22_told.bits7 : waitsOk cofferlaw22_told.T7.2 cofferlaw22_told.B7 = true := by kernel_rfl
set_option maxHeartbeats 8000000 in
set_option maxRecDepth 100000 in
theorem cofferlaw22_told.calls (k : Nat) (A0 : Option Addr) (c0 : Nat) (l0 : List (S36)) (r : List (S57)) (w : World) (hr0 : Kd.C k36 w A0 l0.length l0) (hc0 : l0.length ≤ c0) (h : cofferlaw22_told.f k l0 = some r) :
  Calls Tryd.prog 15 #[.slice A0 l0.length c0] w fun e w' => ∃ v0_ : Value, e = .returned (v0_) ∧ Kd.S k57 57 w' w.heap.size (fun _ => True) v0_ r ∧ Below w.heap.size w w' := by
 have hu34 := Tryd.underlying34
 have hu55 := Tryd.underlying55
 have hu57 := Tryd.underlying57
 have HR0 := Aside0.mk hr0
 have HC0 := Aside0.mk hc0
 clear hr0 hc0
 have HB := Aside0.mk (Below.refl w.heap.size w)
 have H : (cofferlaw22_told.l0 k l0 ([] : List (S57)) 0) = some r := h
 clear h
 have H' := Aside0.mk H
 clear H
 go_enter Tryd.func15, Tryd.ntmps15
 go_wp2
 go_loopg [3, 4] k (fun kq v3 v4 w' => ∃ (x3_1 : List (S57)) (x4_1 : Int), v4 = .int .i64 x4_1 ∧ Aside0 (cofferlaw22_told.l0 kq l0 x3_1 x4_1 = some r) ∧ Aside0 (kq ≤ k) ∧ Aside0 (Kd.S k57 57 w' w.heap.size (fun _ => True) v3 x3_1) ∧ Aside0 (Below w.heap.size w w'))
 case atStart => exact ⟨(([] : List (S57))), (0), (by first | rfl | (simp; done) | (simp [*]; done)), H', ⟨Nat.le_refl _⟩, ⟨by first | exact Kd.S_nil _ _ _ _ _ | exact Kd.N_nil _ _ _ _ _ | exact Kd.V_nil _ _ _ _ _ | exact Kd.Q_nil _ _ _ _ _ | exact Kd.R_nil _ _ _ _ _⟩, ⟨by repeat (first | (with_reducible first | exact HB.out | apply zad | apply zab | apply zac) | exact HB.out)⟩⟩
 case round =>
  clear H'
  try clear c1
  obtain ⟨x3_1, x4_1, rfl, HA, HK1, HO_3, HB⟩ := hrel
  cases gk with
  | zero => exact absurd HA.out (by simp [cofferlaw22_told.l0])
  | succ k1 =>
   have H := HA.out
   clear HA
   simp only [cofferlaw22_told.l0] at H
   by_cases c2 : x4_1 < (l0.length : Int)
   ·
    rw [if_pos c2] at H
    have c2b0 : decide (x4_1 < (l0.length : Int)) = true := decide_eq_true c2
    clear c2
    by_cases c3 : 0 ≤ x4_1
    ·
     rw [if_pos c3] at H
     have c3b0 : decide (0 ≤ x4_1) = true := decide_eq_true c3
     clear c3
     by_cases c4 : ([] : List (S38)).length + ((zaf l0 x4_1).f3.f4).length < 4398046511104
     ·
      rw [if_pos c4] at H
      have LMc4 := Aside0.mk c4
      clear c4
      obtain ⟨y169, hy169⟩ : ∃ y_ : List (S38), y_ = (([] : List (S38)) ++ ((zaf l0 x4_1).f3.f4)) := ⟨_, rfl⟩
      replace H : (if ([] : List Int).length + ((zaf l0 x4_1).f3.f7).length < 17592186044416 then (if x3_1.length < 879609302220 then (cofferlaw22_told.l0 k1 l0 (x3_1 ++ [(⟨(zaf l0 x4_1).f0, (zaf l0 x4_1).f1, (zaf l0 x4_1).f2, (⟨(zaf l0 x4_1).f3.f0, (zaf l0 x4_1).f3.f1, (zaf l0 x4_1).f3.f2, (zaf l0 x4_1).f3.f3, y169, (zaf l0 x4_1).f3.f5, (zaf l0 x4_1).f3.f6, (([] : List Int) ++ ((zaf l0 x4_1).f3.f7))⟩ : S55), (zaf l0 x4_1).f4⟩ : S57)]) (wrap64 (x4_1 + 1))) else (none)) else (none)) = some r := by first | (rw [hy169]; with_reducible exact H) | (have H2_ := (Option.bind_some _ _).symm.trans H; rw [hy169]; with_reducible exact H2_) | (have H2_ := (Option.bind_some _ _).symm.trans H; with_reducible exact H2_) | with_reducible exact H | (rw [hy169]; exact H) | exact H
      have Ny169 := Aside0.mk hy169
      clear hy169
      by_cases c5 : ([] : List Int).length + ((zaf l0 x4_1).f3.f7).length < 17592186044416
      ·
       rw [if_pos c5] at H
       have LMc5 := Aside0.mk c5
       clear c5
       obtain ⟨y172, hy172⟩ : ∃ y_ : List Int, y_ = (([] : List Int) ++ ((zaf l0 x4_1).f3.f7)) := ⟨_, rfl⟩
       replace H : (if x3_1.length < 879609302220 then (cofferlaw22_told.l0 k1 l0 (x3_1 ++ [(⟨(zaf l0 x4_1).f0, (zaf l0 x4_1).f1, (zaf l0 x4_1).f2, (⟨(zaf l0 x4_1).f3.f0, (zaf l0 x4_1).f3.f1, (zaf l0 x4_1).f3.f2, (zaf l0 x4_1).f3.f3, y169, (zaf l0 x4_1).f3.f5, (zaf l0 x4_1).f3.f6, y172⟩ : S55), (zaf l0 x4_1).f4⟩ : S57)]) (wrap64 (x4_1 + 1))) else (none)) = some r := by first | (rw [hy172]; with_reducible exact H) | (have H2_ := (Option.bind_some _ _).symm.trans H; rw [hy172]; with_reducible exact H2_) | (have H2_ := (Option.bind_some _ _).symm.trans H; with_reducible exact H2_) | with_reducible exact H | (rw [hy172]; exact H) | exact H
       have Ny172 := Aside0.mk hy172
       clear hy172
       by_cases c6 : x3_1.length < 879609302220
       ·
        rw [if_pos c6] at H
        have LMc6 := Aside0.mk c6
        clear c6
        obtain ⟨y180, hy180⟩ : ∃ y_ : List (S57), y_ = (x3_1 ++ [(⟨(zaf l0 x4_1).f0, (zaf l0 x4_1).f1, (zaf l0 x4_1).f2, (⟨(zaf l0 x4_1).f3.f0, (zaf l0 x4_1).f3.f1, (zaf l0 x4_1).f3.f2, (zaf l0 x4_1).f3.f3, y169, (zaf l0 x4_1).f3.f5, (zaf l0 x4_1).f3.f6, y172⟩ : S55), (zaf l0 x4_1).f4⟩ : S57)]) := ⟨_, rfl⟩
        replace H : (cofferlaw22_told.l0 k1 l0 y180 (wrap64 (x4_1 + 1))) = some r := by first | (rw [hy180]; with_reducible exact H) | (have H2_ := (Option.bind_some _ _).symm.trans H; rw [hy180]; with_reducible exact H2_) | (have H2_ := (Option.bind_some _ _).symm.trans H; with_reducible exact H2_) | with_reducible exact H | (rw [hy180]; exact H) | exact H
        have Ny180 := Aside0.mk hy180
        clear hy180
        have H' := Aside0.mk H
        clear H
        have p167 : 0 ≤ (x4_1 : Int) := of_decide_eq_true (by first | (with_reducible assumption) | assumption)
        have q167 : x4_1 < (l0.length : Int) := of_decide_eq_true (by first | (with_reducible assumption) | assumption)
        obtain ⟨ad167, A167_7, c167_7, A167_10, c167_10, e167, hx167_0, hx167_1, hx167_2, hx167_3, hx167_4, hx167_5, hx167_6, hx167_7, hx167_8, hx167_9, hx167_10, hx167_11, hl167_7, hi167_7, hl167_10, hi167_10⟩ := at_T36 HR0.out x4_1 p167 q167
        cases e167
        replace hx167_0 := (HB.out.cell (World.block_lt_of_cell? w _ hx167_0)).trans hx167_0
        replace hx167_1 := (HB.out.cell (World.block_lt_of_cell? w _ hx167_1)).trans hx167_1
        replace hx167_2 := (HB.out.cell (World.block_lt_of_cell? w _ hx167_2)).trans hx167_2
        replace hx167_3 := (HB.out.cell (World.block_lt_of_cell? w _ hx167_3)).trans hx167_3
        replace hx167_4 := (HB.out.cell (World.block_lt_of_cell? w _ hx167_4)).trans hx167_4
        replace hx167_5 := (HB.out.cell (World.block_lt_of_cell? w _ hx167_5)).trans hx167_5
        replace hx167_6 := (HB.out.cell (World.block_lt_of_cell? w _ hx167_6)).trans hx167_6
        replace hx167_7 := (HB.out.cell (World.block_lt_of_cell? w _ hx167_7)).trans hx167_7
        replace hx167_8 := (HB.out.cell (World.block_lt_of_cell? w _ hx167_8)).trans hx167_8
        replace hx167_9 := (HB.out.cell (World.block_lt_of_cell? w _ hx167_9)).trans hx167_9
        replace hx167_10 := (HB.out.cell (World.block_lt_of_cell? w _ hx167_10)).trans hx167_10
        replace hx167_11 := (HB.out.cell (World.block_lt_of_cell? w _ hx167_11)).trans hx167_11
        have HR167_7 := Aside0.mk hi167_7
        have HC167_7 := Aside0.mk hl167_7
        clear hi167_7 hl167_7
        have HR167_10 := Aside0.mk hi167_10
        have HC167_10 := Aside0.mk hl167_10
        clear hi167_10 hl167_10
        replace p167 := eq_true p167
        replace q167 := eq_true q167
        try go_wp2_with (first | ((with_reducible refine zau (N := 5) rfl ?_); refine zay ?hg (N := 5) ?hd (cs := #[.int .i64 0, .string (⟨#[]⟩ : ByteArray), .string (⟨#[]⟩ : ByteArray), .string (⟨#[]⟩ : ByteArray), .slice none 0 0, .int .i64 0, .int .i64 0, .slice none 0 0]) (t := 34) ?hr ?_; (case hd => rfl); (case hg => rfl); (case hr => first | (go_simp; done) | (go_simp; rfl)); intro gb168 hg w7 hbox hb; have n0_ := Aside0.mk (Kd.S_below (by (with_reducible repeat (first | apply Kd.S_alloc | apply Kd.S_drewN | apply Kd.S_drew)); exact HO_3.out) hb); have n1_ := Aside0.mk (zan (by repeat (first | (with_reducible first | exact HB.out | apply zad | apply zab | apply zac) | exact HB.out)) hb); have n2_ := Aside0.mk (hbox); have n3_ := Aside0.mk ((by rw [hg]; exact (zaj (by repeat (first | (with_reducible first | exact HB.out | apply zad | apply zab | apply zac) | exact HB.out))) : w.heap.size ≤ gb168)); have n4_ := Aside0.mk ((by rw [hg]; exact (zaj (by repeat (first | (with_reducible first | exact HB.out | apply zad | apply zab | apply zac) | exact HB.out))) : w.heap.size ≤ gb168)); clear HO_3; clear HB; have HO_3 := n0_; have HB := n1_; have BK168 := n2_; have GW168 := n3_; have GE168 := n4_; clear n0_ n1_ n2_ n3_ n4_; clear hb hbox hg; have hcz8_0 : w7.cell? ⟨gb168, 0, none⟩ = some (.int .i64 0) := (zaa BK168.out 0).trans rfl; have hcz8_1 : w7.cell? ⟨gb168, 1, none⟩ = some (.string (⟨#[]⟩ : ByteArray)) := (zaa BK168.out 1).trans rfl; have hcz8_2 : w7.cell? ⟨gb168, 2, none⟩ = some (.string (⟨#[]⟩ : ByteArray)) := (zaa BK168.out 2).trans rfl; have hcz8_3 : w7.cell? ⟨gb168, 3, none⟩ = some (.string (⟨#[]⟩ : ByteArray)) := (zaa BK168.out 3).trans rfl; have hcz8_4 : w7.cell? ⟨gb168, 4, none⟩ = some (.slice none 0 0) := (zaa BK168.out 4).trans rfl; have hcz8_5 : w7.cell? ⟨gb168, 5, none⟩ = some (.int .i64 0) := (zaa BK168.out 5).trans rfl; have hcz8_6 : w7.cell? ⟨gb168, 6, none⟩ = some (.int .i64 0) := (zaa BK168.out 6).trans rfl; have hcz8_7 : w7.cell? ⟨gb168, 7, none⟩ = some (.slice none 0 0) := (zaa BK168.out 7).trans rfl; have hfz8_0 := zae BK168.out 0; have hfz8_1 := zae BK168.out 1; have hfz8_2 := zae BK168.out 2; have hfz8_3 := zae BK168.out 3; have hfz8_4 := zae BK168.out 4; have hfz8_5 := zae BK168.out 5; have hfz8_6 := zae BK168.out 6; have hfz8_7 := zae BK168.out 7))
        have n0_ : Aside0 (Kd.S k57 57 ((((((((w7.setCell ⟨gb168, 0, none⟩ (.int .i64 ((zaf l0 x4_1).f3.f0))).setCell ⟨gb168, 1, none⟩ (.string ((zaf l0 x4_1).f3.f1))).setCell ⟨gb168, 2, none⟩ (.string ((zaf l0 x4_1).f3.f2))).setCell ⟨gb168, 3, none⟩ (.string ((zaf l0 x4_1).f3.f3))).setCell ⟨gb168, 4, none⟩ (.slice A167_7 ((zaf l0 x4_1).f3.f4).length c167_7)).setCell ⟨gb168, 5, none⟩ (.int .i64 ((zaf l0 x4_1).f3.f5))).setCell ⟨gb168, 6, none⟩ (.int .i64 ((zaf l0 x4_1).f3.f6))).setCell ⟨gb168, 7, none⟩ (.slice A167_10 ((zaf l0 x4_1).f3.f7).length c167_10)) w.heap.size (fun _ => True) u3 x3_1) := ⟨by (with_reducible repeat (first | apply Kd.S_alloc | apply Kd.S_drewN | apply Kd.S_drew)); exact Kd.S_mono (Kd.S_far (p := ⟨gb168, 7, none⟩) (Kd.S_far (p := ⟨gb168, 6, none⟩) (Kd.S_far (p := ⟨gb168, 5, none⟩) (Kd.S_far (p := ⟨gb168, 4, none⟩) (Kd.S_far (p := ⟨gb168, 3, none⟩) (Kd.S_far (p := ⟨gb168, 2, none⟩) (Kd.S_far (p := ⟨gb168, 1, none⟩) (Kd.S_far (p := ⟨gb168, 0, none⟩) (Kd.S_types HO_3.out BK168.out (by decide)) (fun _ hk => hk.2) (.int .i64 ((zaf l0 x4_1).f3.f0))) (fun _ hk => hk.2) (.string ((zaf l0 x4_1).f3.f1))) (fun _ hk => hk.2) (.string ((zaf l0 x4_1).f3.f2))) (fun _ hk => hk.2) (.string ((zaf l0 x4_1).f3.f3))) (fun _ hk => hk.2) (.slice A167_7 ((zaf l0 x4_1).f3.f4).length c167_7)) (fun _ hk => hk.2) (.int .i64 ((zaf l0 x4_1).f3.f5))) (fun _ hk => hk.2) (.int .i64 ((zaf l0 x4_1).f3.f6))) (fun _ hk => hk.2) (.slice A167_10 ((zaf l0 x4_1).f3.f7).length c167_10)) (fun _ hk => trivial)⟩
        have n1_ : Aside0 (((((((((w7.setCell ⟨gb168, 0, none⟩ (.int .i64 ((zaf l0 x4_1).f3.f0))).setCell ⟨gb168, 1, none⟩ (.string ((zaf l0 x4_1).f3.f1))).setCell ⟨gb168, 2, none⟩ (.string ((zaf l0 x4_1).f3.f2))).setCell ⟨gb168, 3, none⟩ (.string ((zaf l0 x4_1).f3.f3))).setCell ⟨gb168, 4, none⟩ (.slice A167_7 ((zaf l0 x4_1).f3.f4).length c167_7)).setCell ⟨gb168, 5, none⟩ (.int .i64 ((zaf l0 x4_1).f3.f5))).setCell ⟨gb168, 6, none⟩ (.int .i64 ((zaf l0 x4_1).f3.f6))).setCell ⟨gb168, 7, none⟩ (.slice A167_10 ((zaf l0 x4_1).f3.f7).length c167_10)).heap[gb168]? = some (.cells #[.int .i64 ((zaf l0 x4_1).f3.f0), .string ((zaf l0 x4_1).f3.f1), .string ((zaf l0 x4_1).f3.f2), .string ((zaf l0 x4_1).f3.f3), .slice A167_7 ((zaf l0 x4_1).f3.f4).length c167_7, .int .i64 ((zaf l0 x4_1).f3.f5), .int .i64 ((zaf l0 x4_1).f3.f6), .slice A167_10 ((zaf l0 x4_1).f3.f7).length c167_10] 34 (0, 0))) := ⟨by (with_reducible repeat (first | refine zah ?_ _ | refine zai ?_ | refine zag ?_ _)); refine zao (cs := #[.int .i64 ((zaf l0 x4_1).f3.f0), .string ((zaf l0 x4_1).f3.f1), .string ((zaf l0 x4_1).f3.f2), .string ((zaf l0 x4_1).f3.f3), .slice A167_7 ((zaf l0 x4_1).f3.f4).length c167_7, .int .i64 ((zaf l0 x4_1).f3.f5), .int .i64 ((zaf l0 x4_1).f3.f6), .slice none 0 0]) ?_ 7 _ rfl; (with_reducible repeat (first | refine zah ?_ _ | refine zai ?_ | refine zag ?_ _)); refine zao (cs := #[.int .i64 ((zaf l0 x4_1).f3.f0), .string ((zaf l0 x4_1).f3.f1), .string ((zaf l0 x4_1).f3.f2), .string ((zaf l0 x4_1).f3.f3), .slice A167_7 ((zaf l0 x4_1).f3.f4).length c167_7, .int .i64 ((zaf l0 x4_1).f3.f5), .int .i64 0, .slice none 0 0]) ?_ 6 _ rfl; (with_reducible repeat (first | refine zah ?_ _ | refine zai ?_ | refine zag ?_ _)); refine zao (cs := #[.int .i64 ((zaf l0 x4_1).f3.f0), .string ((zaf l0 x4_1).f3.f1), .string ((zaf l0 x4_1).f3.f2), .string ((zaf l0 x4_1).f3.f3), .slice A167_7 ((zaf l0 x4_1).f3.f4).length c167_7, .int .i64 0, .int .i64 0, .slice none 0 0]) ?_ 5 _ rfl; (with_reducible repeat (first | refine zah ?_ _ | refine zai ?_ | refine zag ?_ _)); refine zao (cs := #[.int .i64 ((zaf l0 x4_1).f3.f0), .string ((zaf l0 x4_1).f3.f1), .string ((zaf l0 x4_1).f3.f2), .string ((zaf l0 x4_1).f3.f3), .slice none 0 0, .int .i64 0, .int .i64 0, .slice none 0 0]) ?_ 4 _ rfl; (with_reducible repeat (first | refine zah ?_ _ | refine zai ?_ | refine zag ?_ _)); refine zao (cs := #[.int .i64 ((zaf l0 x4_1).f3.f0), .string ((zaf l0 x4_1).f3.f1), .string ((zaf l0 x4_1).f3.f2), .string (⟨#[]⟩ : ByteArray), .slice none 0 0, .int .i64 0, .int .i64 0, .slice none 0 0]) ?_ 3 _ rfl; (with_reducible repeat (first | refine zah ?_ _ | refine zai ?_ | refine zag ?_ _)); refine zao (cs := #[.int .i64 ((zaf l0 x4_1).f3.f0), .string ((zaf l0 x4_1).f3.f1), .string (⟨#[]⟩ : ByteArray), .string (⟨#[]⟩ : ByteArray), .slice none 0 0, .int .i64 0, .int .i64 0, .slice none 0 0]) ?_ 2 _ rfl; (with_reducible repeat (first | refine zah ?_ _ | refine zai ?_ | refine zag ?_ _)); refine zao (cs := #[.int .i64 ((zaf l0 x4_1).f3.f0), .string (⟨#[]⟩ : ByteArray), .string (⟨#[]⟩ : ByteArray), .string (⟨#[]⟩ : ByteArray), .slice none 0 0, .int .i64 0, .int .i64 0, .slice none 0 0]) ?_ 1 _ rfl; (with_reducible repeat (first | refine zah ?_ _ | refine zai ?_ | refine zag ?_ _)); refine zao (cs := #[.int .i64 0, .string (⟨#[]⟩ : ByteArray), .string (⟨#[]⟩ : ByteArray), .string (⟨#[]⟩ : ByteArray), .slice none 0 0, .int .i64 0, .int .i64 0, .slice none 0 0]) ?_ 0 _ rfl; (with_reducible repeat (first | refine zah ?_ _ | refine zai ?_ | refine zag ?_ _)); exact BK168.out⟩
        have n2_ : Aside0 (Below w.heap.size w ((((((((w7.setCell ⟨gb168, 0, none⟩ (.int .i64 ((zaf l0 x4_1).f3.f0))).setCell ⟨gb168, 1, none⟩ (.string ((zaf l0 x4_1).f3.f1))).setCell ⟨gb168, 2, none⟩ (.string ((zaf l0 x4_1).f3.f2))).setCell ⟨gb168, 3, none⟩ (.string ((zaf l0 x4_1).f3.f3))).setCell ⟨gb168, 4, none⟩ (.slice A167_7 ((zaf l0 x4_1).f3.f4).length c167_7)).setCell ⟨gb168, 5, none⟩ (.int .i64 ((zaf l0 x4_1).f3.f5))).setCell ⟨gb168, 6, none⟩ (.int .i64 ((zaf l0 x4_1).f3.f6))).setCell ⟨gb168, 7, none⟩ (.slice A167_10 ((zaf l0 x4_1).f3.f7).length c167_10))) := ⟨by repeat (first | (with_reducible first | exact HB.out | apply zad | apply zab | apply zac | refine zak ?_ GE168.out) | exact HB.out)⟩
        (try clear HO_3)
        (try clear BK168)
        (try clear HB)
        generalize ((((((((w7.setCell ⟨gb168, 0, none⟩ (.int .i64 ((zaf l0 x4_1).f3.f0))).setCell ⟨gb168, 1, none⟩ (.string ((zaf l0 x4_1).f3.f1))).setCell ⟨gb168, 2, none⟩ (.string ((zaf l0 x4_1).f3.f2))).setCell ⟨gb168, 3, none⟩ (.string ((zaf l0 x4_1).f3.f3))).setCell ⟨gb168, 4, none⟩ (.slice A167_7 ((zaf l0 x4_1).f3.f4).length c167_7)).setCell ⟨gb168, 5, none⟩ (.int .i64 ((zaf l0 x4_1).f3.f5))).setCell ⟨gb168, 6, none⟩ (.int .i64 ((zaf l0 x4_1).f3.f6))).setCell ⟨gb168, 7, none⟩ (.slice A167_10 ((zaf l0 x4_1).f3.f7).length c167_10)) = w9 at n0_ n1_ n2_ ⊢
        have HO_3 := n0_
        have BK168 := n1_
        have HB := n2_
        clear n0_ n1_ n2_
        have n0_ := Aside0.mk (Kd.S_drew HO_3.out)
        have n1_ := Aside0.mk (zai BK168.out)
        have n2_ := Aside0.mk (zac HB.out)
        clear HO_3
        clear BK168
        clear HB
        have HO_3 := n0_
        have BK168 := n1_
        have HB := n2_
        clear n0_ n1_ n2_
        refine start_ (n := 21) (S := fun w' => w'.cell? ⟨gb168, 0, none⟩ = some (.int .i64 ((zaf l0 x4_1).f3.f0)) ∧ w'.cell? ⟨gb168, 1, none⟩ = some (.string ((zaf l0 x4_1).f3.f1)) ∧ w'.cell? ⟨gb168, 2, none⟩ = some (.string ((zaf l0 x4_1).f3.f2)) ∧ w'.cell? ⟨gb168, 3, none⟩ = some (.string ((zaf l0 x4_1).f3.f3)) ∧ w'.cell? ⟨gb168, 4, none⟩ = some (.slice A167_7 ((zaf l0 x4_1).f3.f4).length c167_7) ∧ w'.cell? ⟨gb168, 5, none⟩ = some (.int .i64 ((zaf l0 x4_1).f3.f5)) ∧ w'.cell? ⟨gb168, 6, none⟩ = some (.int .i64 ((zaf l0 x4_1).f3.f6)) ∧ w'.cell? ⟨gb168, 7, none⟩ = some (.slice A167_10 ((zaf l0 x4_1).f3.f7).length c167_10)) (ds := []) #[false, false, false, false, false, false, false, false, false, false, false, false, false, false, false, false, false, false, false, false, false] (by kernel_rfl) rfl rfl ⟨(zaa BK168.out 0).trans rfl, (zaa BK168.out 1).trans rfl, (zaa BK168.out 2).trans rfl, (zaa BK168.out 3).trans rfl, (zaa BK168.out 4).trans rfl, (zaa BK168.out 5).trans rfl, (zaa BK168.out 6).trans rfl, (zaa BK168.out 7).trans rfl⟩ (fun hHeld => ?_); refine with_tabW cofferlaw22_told.tab6 cofferlaw22_told.bits6 (fun HT_ HW_ => ?_)
        generalize w9.drew = w10 at HO_3 BK168 HB hHeld ⊢
        refine pure_ (i := 0) (N := some 18) (v := ?_) (a' := ?_) #[true, false, false, false, false, false, false, false, false, false, false, false, false, false, false, false, false, false, false, false, false] rfl rfl (zap HT_.out (by kernel_rfl)) (fun _ _ _ h => h) (Or.inl ⟨by rfl, ?_⟩) ?_ ?_
        rotate_left
        ·
         intro w'
         go_simp
         with_reducible rfl
        rotate_left
        ·
         simp only [Act.put, List.setIfInBounds_toArray, List.set_cons_zero, List.set_cons_succ, i64_w, i32_w]
         rfl
        refine pure_ (i := 2) (N := some 20) (v := ?_) (a' := ?_) #[true, false, true, false, false, false, false, false, false, false, false, false, false, false, false, false, false, false, false, false, false] rfl rfl (zap HT_.out (by kernel_rfl)) (fun _ _ _ h => h) (Or.inl ⟨by rfl, ?_⟩) ?_ ?_
        rotate_left
        ·
         intro w'
         go_simp
         with_reducible rfl
        rotate_left
        ·
         simp only [Act.put, List.setIfInBounds_toArray, List.set_cons_zero, List.set_cons_succ, i64_w, i32_w]
         rfl
        refine pure_ (i := 4) (N := some 22) (v := ?_) (a' := ?_) #[true, false, true, false, true, false, false, false, false, false, false, false, false, false, false, false, false, false, false, false, false] rfl rfl (zap HT_.out (by kernel_rfl)) (fun _ _ _ h => h) (Or.inl ⟨by rfl, ?_⟩) ?_ ?_
        rotate_left
        ·
         intro w'
         go_simp
         with_reducible rfl
        rotate_left
        ·
         simp only [Act.put, List.setIfInBounds_toArray, List.set_cons_zero, List.set_cons_succ, i64_w, i32_w]
         rfl
        refine pure_ (i := 6) (N := some 24) (v := ?_) (a' := ?_) #[true, false, true, false, true, false, true, false, false, false, false, false, false, false, false, false, false, false, false, false, false] rfl rfl (zap HT_.out (by kernel_rfl)) (fun _ _ _ h => h) (Or.inl ⟨by rfl, ?_⟩) ?_ ?_
        rotate_left
        ·
         intro w'
         go_simp
         with_reducible rfl
        rotate_left
        ·
         simp only [Act.put, List.setIfInBounds_toArray, List.set_cons_zero, List.set_cons_succ, i64_w, i32_w]
         rfl
        refine pure_ (i := 8) (N := some 26) (v := ?_) (a' := ?_) #[true, false, true, false, true, false, true, false, true, false, false, false, false, false, false, false, false, false, false, false, false] rfl rfl (zap HT_.out (by kernel_rfl)) (fun _ _ _ h => h) (Or.inl ⟨by rfl, ?_⟩) ?_ ?_
        rotate_left
        ·
         intro w'
         go_simp
         with_reducible rfl
        rotate_left
        ·
         simp only [Act.put, List.setIfInBounds_toArray, List.set_cons_zero, List.set_cons_succ, i64_w, i32_w]
         rfl
        refine pure_ (i := 11) (N := some 29) (v := ?_) (a' := ?_) #[true, false, true, false, true, false, true, false, true, false, false, true, false, false, false, false, false, false, false, false, false] rfl rfl (zap HT_.out (by kernel_rfl)) (fun _ _ _ h => h) (Or.inl ⟨by rfl, ?_⟩) ?_ ?_
        rotate_left
        ·
         intro w'
         go_simp
         with_reducible rfl
        rotate_left
        ·
         simp only [Act.put, List.setIfInBounds_toArray, List.set_cons_zero, List.set_cons_succ, i64_w, i32_w]
         rfl
        refine pure_ (i := 13) (N := some 31) (v := ?_) (a' := ?_) #[true, false, true, false, true, false, true, false, true, false, false, true, false, true, false, false, false, false, false, false, false] rfl rfl (zap HT_.out (by kernel_rfl)) (fun _ _ _ h => h) (Or.inl ⟨by rfl, ?_⟩) ?_ ?_
        rotate_left
        ·
         intro w'
         go_simp
         with_reducible rfl
        rotate_left
        ·
         simp only [Act.put, List.setIfInBounds_toArray, List.set_cons_zero, List.set_cons_succ, i64_w, i32_w]
         rfl
        refine pure_ (i := 15) (N := some 33) (v := ?_) (a' := ?_) #[true, false, true, false, true, false, true, false, true, false, false, true, false, true, false, true, false, false, false, false, false] rfl rfl (zap HT_.out (by kernel_rfl)) (fun _ _ _ h => h) (Or.inl ⟨by rfl, ?_⟩) ?_ ?_
        rotate_left
        ·
         intro w'
         go_simp
         with_reducible rfl
        rotate_left
        ·
         simp only [Act.put, List.setIfInBounds_toArray, List.set_cons_zero, List.set_cons_succ, i64_w, i32_w]
         rfl
        refine take_ (i := 1) (N := some 19) (v := ?_) (a' := ?_) #[true, true, true, false, true, false, true, false, true, false, false, true, false, true, false, true, false, false, false, false, false] rfl rfl (zbe HT_.out HW_.out (by kernel_rfl)) (fun _ _ _ h => h) (Or.inl ⟨by rfl, ?_⟩) hHeld ?_ ?_
        rotate_left
        ·
         rintro w' ⟨s0, s1, s2, s3, s4, s5, s6, s7⟩
         go_simp
         with_reducible rfl
        rotate_left
        ·
         simp only [Act.put, List.setIfInBounds_toArray, List.set_cons_zero, List.set_cons_succ, i64_w, i32_w]
         rfl
        refine take_ (i := 3) (N := some 21) (v := ?_) (a' := ?_) #[true, true, true, true, true, false, true, false, true, false, false, true, false, true, false, true, false, false, false, false, false] rfl rfl (zbe HT_.out HW_.out (by kernel_rfl)) (fun _ _ _ h => h) (Or.inl ⟨by rfl, ?_⟩) hHeld ?_ ?_
        rotate_left
        ·
         rintro w' ⟨s0, s1, s2, s3, s4, s5, s6, s7⟩
         go_simp
         with_reducible rfl
        rotate_left
        ·
         simp only [Act.put, List.setIfInBounds_toArray, List.set_cons_zero, List.set_cons_succ, i64_w, i32_w]
         rfl
        refine take_ (i := 5) (N := some 23) (v := ?_) (a' := ?_) #[true, true, true, true, true, true, true, false, true, false, false, true, false, true, false, true, false, false, false, false, false] rfl rfl (zbe HT_.out HW_.out (by kernel_rfl)) (fun _ _ _ h => h) (Or.inl ⟨by rfl, ?_⟩) hHeld ?_ ?_
        rotate_left
        ·
         rintro w' ⟨s0, s1, s2, s3, s4, s5, s6, s7⟩
         go_simp
         with_reducible rfl
        rotate_left
        ·
         simp only [Act.put, List.setIfInBounds_toArray, List.set_cons_zero, List.set_cons_succ, i64_w, i32_w]
         rfl
        refine take_ (i := 7) (N := some 25) (v := ?_) (a' := ?_) #[true, true, true, true, true, true, true, true, true, false, false, true, false, true, false, true, false, false, false, false, false] rfl rfl (zbe HT_.out HW_.out (by kernel_rfl)) (fun _ _ _ h => h) (Or.inl ⟨by rfl, ?_⟩) hHeld ?_ ?_
        rotate_left
        ·
         rintro w' ⟨s0, s1, s2, s3, s4, s5, s6, s7⟩
         go_simp
         with_reducible rfl
        rotate_left
        ·
         simp only [Act.put, List.setIfInBounds_toArray, List.set_cons_zero, List.set_cons_succ, i64_w, i32_w]
         rfl
        refine take_ (i := 9) (N := some 27) (v := ?_) (a' := ?_) #[true, true, true, true, true, true, true, true, true, true, false, true, false, true, false, true, false, false, false, false, false] rfl rfl (zbe HT_.out HW_.out (by kernel_rfl)) (fun _ _ _ h => h) (Or.inl ⟨by rfl, ?_⟩) hHeld ?_ ?_
        rotate_left
        ·
         rintro w' ⟨s0, s1, s2, s3, s4, s5, s6, s7⟩
         go_simp
         with_reducible rfl
        rotate_left
        ·
         simp only [Act.put, List.setIfInBounds_toArray, List.set_cons_zero, List.set_cons_succ, i64_w, i32_w]
         rfl
        refine take_ (i := 12) (N := some 30) (v := ?_) (a' := ?_) #[true, true, true, true, true, true, true, true, true, true, false, true, true, true, false, true, false, false, false, false, false] rfl rfl (zbe HT_.out HW_.out (by kernel_rfl)) (fun _ _ _ h => h) (Or.inl ⟨by rfl, ?_⟩) hHeld ?_ ?_
        rotate_left
        ·
         rintro w' ⟨s0, s1, s2, s3, s4, s5, s6, s7⟩
         go_simp
         with_reducible rfl
        rotate_left
        ·
         simp only [Act.put, List.setIfInBounds_toArray, List.set_cons_zero, List.set_cons_succ, i64_w, i32_w]
         rfl
        refine take_ (i := 14) (N := some 32) (v := ?_) (a' := ?_) #[true, true, true, true, true, true, true, true, true, true, false, true, true, true, true, true, false, false, false, false, false] rfl rfl (zbe HT_.out HW_.out (by kernel_rfl)) (fun _ _ _ h => h) (Or.inl ⟨by rfl, ?_⟩) hHeld ?_ ?_
        rotate_left
        ·
         rintro w' ⟨s0, s1, s2, s3, s4, s5, s6, s7⟩
         go_simp
         with_reducible rfl
        rotate_left
        ·
         simp only [Act.put, List.setIfInBounds_toArray, List.set_cons_zero, List.set_cons_succ, i64_w, i32_w]
         rfl
        refine take_ (i := 16) (N := some 34) (v := ?_) (a' := ?_) #[true, true, true, true, true, true, true, true, true, true, false, true, true, true, true, true, true, false, false, false, false] rfl rfl (zbe HT_.out HW_.out (by kernel_rfl)) (fun _ _ _ h => h) (Or.inl ⟨by rfl, ?_⟩) hHeld ?_ ?_
        rotate_left
        ·
         rintro w' ⟨s0, s1, s2, s3, s4, s5, s6, s7⟩
         go_simp
         with_reducible rfl
        rotate_left
        ·
         simp only [Act.put, List.setIfInBounds_toArray, List.set_cons_zero, List.set_cons_succ, i64_w, i32_w]
         rfl
        refine join_ (σ := Value × Value × Nat) 1 #[true, true, true, true, true, true, true, true, true, true, true, true, true, true, true, true, true, true, true, true, false] (fun s_ => [(28, s_.1), (35, s_.2.1), (6, .pointer (some ⟨s_.2.2, 0, none⟩)), (36, .agg #[.int .i64 ((zaf l0 x4_1).f3.f0), .string ((zaf l0 x4_1).f3.f1), .string ((zaf l0 x4_1).f3.f2), .string ((zaf l0 x4_1).f3.f3), s_.1, .int .i64 ((zaf l0 x4_1).f3.f5), .int .i64 ((zaf l0 x4_1).f3.f6), s_.2.1])]) (fun s_ w' => (w'.cell? ⟨gb168, 0, none⟩ = some (.int .i64 ((zaf l0 x4_1).f3.f0)) ∧ w'.cell? ⟨gb168, 1, none⟩ = some (.string ((zaf l0 x4_1).f3.f1)) ∧ w'.cell? ⟨gb168, 2, none⟩ = some (.string ((zaf l0 x4_1).f3.f2)) ∧ w'.cell? ⟨gb168, 3, none⟩ = some (.string ((zaf l0 x4_1).f3.f3)) ∧ w'.cell? ⟨gb168, 4, none⟩ = some (.slice A167_7 ((zaf l0 x4_1).f3.f4).length c167_7) ∧ w'.cell? ⟨gb168, 5, none⟩ = some (.int .i64 ((zaf l0 x4_1).f3.f5)) ∧ w'.cell? ⟨gb168, 6, none⟩ = some (.int .i64 ((zaf l0 x4_1).f3.f6)) ∧ w'.cell? ⟨gb168, 7, none⟩ = some (.slice A167_10 ((zaf l0 x4_1).f3.f7).length c167_10)) ∧ (Kd.R k38 38 w' w.heap.size (fun _ => True) s_.1 y169) ∧ (Kd.R (Kd.int .i64) 3 w' w.heap.size (fun _ => True) s_.2.1 y172) ∧ (Kd.S k57 57 w' w.heap.size (fun k_ => some k_ ≠ (s_.1 : Value).ownBlock ∧ some k_ ≠ (s_.2.1 : Value).ownBlock) u3 x3_1) ∧ (w'.heap[gb168]? = some (.cells #[.int .i64 ((zaf l0 x4_1).f3.f0), .string ((zaf l0 x4_1).f3.f1), .string ((zaf l0 x4_1).f3.f2), .string ((zaf l0 x4_1).f3.f3), .slice A167_7 ((zaf l0 x4_1).f3.f4).length c167_7, .int .i64 ((zaf l0 x4_1).f3.f5), .int .i64 ((zaf l0 x4_1).f3.f6), .slice A167_10 ((zaf l0 x4_1).f3.f7).length c167_10] 34 (0, 0))) ∧ (w'.heap[s_.2.2]? = some (.cells #[.int .i64 0, .string (⟨#[]⟩ : ByteArray), .string (⟨#[]⟩ : ByteArray), .string (⟨#[]⟩ : ByteArray), .slice none 0 0, .int .i64 0, .int .i64 0, .slice none 0 0] 55 (0, 0))) ∧ (w.heap.size ≤ s_.2.2) ∧ (w.heap.size ≤ s_.2.2) ∧ (gb168 ≠ s_.2.2) ∧ (s_.2.2 ≠ gb168) ∧ (Below w.heap.size w w')) ?_ ?_
        rotate_left
        ·
         intro hCont
         refine two_ (i := 10) (j := 19) (Ni := some 28) (Nj := some 6) #[true, true, true, true, true, true, true, true, true, true, true, true, true, true, true, true, true, false, false, false, false] #[true, true, true, true, true, true, true, true, true, true, false, true, true, true, true, true, true, false, false, true, false] rfl rfl rfl rfl (two_of HT_.out (by kernel_rfl)) (by decide) (by decide) (fun K hK => ?_) (fun K hK => ?_)
         ·
          skip
          refine Kd.R_append_rows_step k38 (w0 := w) w.heap.size (by rfl) (.const (.slice none 0 0)) (.tmp 27) 31 38 (.agg #[(.string ⟨#[]⟩), (.string ⟨#[]⟩)]) 32 rfl Tryd.underlying31 info38 rfl (by decide) (by omega) (.slice none 0 0) ([] : List (S38)) ((zaf l0 x4_1).f3.f4) _ _ _ (fun _ => True) (fun _ => False) rfl rfl ?aO ?aR (fun _ _ h => h) (fun _ h => h.elim) ?aF ?aB ?aS ?aL ?_
          (case aR => repeat (first | exact (Kd.C_below HR167_7.out HB.out) | (with_reducible refine Kd.C_alloc ?_ _) | (with_reducible refine Kd.C_drewN ?_ _) | (with_reducible refine Kd.C_drew ?_)))
          (case aB => exact (by repeat (first | (with_reducible first | exact HB.out | apply zad | apply zab | apply zac | refine zak ?_ GE168.out) | exact HB.out)))
          (case aF => exact (fun _ _ => trivial))
          (case aO => exact ((Kd.R_nil _ _ _ _ (fun _ => True))))
          (case aS => exact (zaj (by repeat (first | (with_reducible first | exact HB.out | apply zad | apply zab | apply zac | refine zak ?_ GE168.out) | exact HB.out))))
          (case aL => have := LMc4.out; omega)
          intro v170 w11 ho hb hg hat
          rw [← Ny169.out] at ho
          have n0_ := Aside0.mk (Kd.S_after (Kd.S_apart_nil (by (with_reducible repeat (first | apply Kd.S_alloc | apply Kd.S_drewN | apply Kd.S_drew)); exact HO_3.out)) hg hat)
          have n1_ := Aside0.mk (zbp (g := gb168) (o := .cells #[.int .i64 ((zaf l0 x4_1).f3.f0), .string ((zaf l0 x4_1).f3.f1), .string ((zaf l0 x4_1).f3.f2), .string ((zaf l0 x4_1).f3.f3), .slice A167_7 ((zaf l0 x4_1).f3.f4).length c167_7, .int .i64 ((zaf l0 x4_1).f3.f5), .int .i64 ((zaf l0 x4_1).f3.f6), .slice A167_10 ((zaf l0 x4_1).f3.f7).length c167_10] 34 (0, 0)) (by (with_reducible repeat (first | refine zah ?_ _ | refine zai ?_ | refine zag ?_ _)); exact BK168.out) hg (by simp [Value.ownBlock]))
          have n2_ := Aside0.mk (hb)
          have n3_ := Aside0.mk (ho)
          clear HO_3
          clear BK168
          clear HB
          have HO_3 := n0_
          have BK168 := n1_
          have HB := n2_
          have HO171 := n3_
          clear n0_ n1_ n2_ n3_
          clear ho hb hg hat
          refine hK.out _ _ ⟨(zaa BK168.out 0).trans rfl, (zaa BK168.out 1).trans rfl, (zaa BK168.out 2).trans rfl, (zaa BK168.out 3).trans rfl, (zaa BK168.out 4).trans rfl, (zaa BK168.out 5).trans rfl, (zaa BK168.out 6).trans rfl, (zaa BK168.out 7).trans rfl⟩ (fun hHeld => ?_)
          clear hK K
          refine norm_ (a' := ?_) ?_ ?_
          rotate_left
          ·
           show Act.put _ (some 28) _ = _
           simp only [Act.put, List.setIfInBounds_toArray, List.set_cons_zero, List.set_cons_succ, i64_w, i32_w]
           rfl
          refine two_ (i := 17) (j := 19) (Ni := some 35) (Nj := some 6) #[true, true, true, true, true, true, true, true, true, true, true, true, true, true, true, true, true, true, false, false, false] #[true, true, true, true, true, true, true, true, true, true, true, true, true, true, true, true, true, false, false, true, false] rfl rfl rfl rfl (two_of HT_.out (by kernel_rfl)) (by decide) (by decide) (fun K hK => ?_) (fun K hK => ?_)
          ·
           skip
           refine Kd.R_append_rows_step (Kd.int .i64) (w0 := w) w.heap.size (by rfl) (.const (.slice none 0 0)) (.tmp 34) 32 3 (.int .i64 0) 8 rfl Tryd.underlying32 info3 rfl (by decide) (by omega) (.slice none 0 0) ([] : List Int) ((zaf l0 x4_1).f3.f7) _ _ _ (fun _ => True) (fun _ => False) rfl rfl ?aO ?aR (fun _ _ h => h) (fun _ h => h.elim) ?aF ?aB ?aS ?aL ?_
           (case aR => repeat (first | exact (Kd.C_below HR167_10.out HB.out) | (with_reducible refine Kd.C_alloc ?_ _) | (with_reducible refine Kd.C_drewN ?_ _) | (with_reducible refine Kd.C_drew ?_)))
           (case aB => exact (by repeat (first | (with_reducible first | exact HB.out | apply zad | apply zab | apply zac | refine zak ?_ GE168.out) | exact HB.out)))
           (case aF => exact (fun _ _ => trivial))
           (case aO => exact ((Kd.R_nil _ _ _ _ (fun _ => True))))
           (case aS => exact (zaj (by repeat (first | (with_reducible first | exact HB.out | apply zad | apply zab | apply zac | refine zak ?_ GE168.out) | exact HB.out))))
           (case aL => have := LMc5.out; omega)
           intro v173 w12 ho hb hg hat
           rw [← Ny172.out] at ho
           have n0_ := Aside0.mk (Kd.S_after (Kd.S_apart_nil (by (with_reducible repeat (first | apply Kd.S_alloc | apply Kd.S_drewN | apply Kd.S_drew)); exact HO_3.out)) hg hat)
           have n1_ := Aside0.mk (zbp (g := gb168) (o := .cells #[.int .i64 ((zaf l0 x4_1).f3.f0), .string ((zaf l0 x4_1).f3.f1), .string ((zaf l0 x4_1).f3.f2), .string ((zaf l0 x4_1).f3.f3), .slice A167_7 ((zaf l0 x4_1).f3.f4).length c167_7, .int .i64 ((zaf l0 x4_1).f3.f5), .int .i64 ((zaf l0 x4_1).f3.f6), .slice A167_10 ((zaf l0 x4_1).f3.f7).length c167_10] 34 (0, 0)) (by (with_reducible repeat (first | refine zah ?_ _ | refine zai ?_ | refine zag ?_ _)); exact BK168.out) hg (by simp [Value.ownBlock]))
           have n2_ := Aside0.mk (Kd.R_grown (by (with_reducible repeat (first | apply Kd.R_alloc | apply Kd.R_drewN | apply Kd.R_drew)); exact HO171.out) hg (fun _ _ => by simp [Value.ownBlock]))
           have n3_ := Aside0.mk (hb)
           have n4_ := Aside0.mk (ho)
           clear HO_3
           clear BK168
           clear HO171
           clear HB
           have HO_3 := n0_
           have BK168 := n1_
           have HO171 := n2_
           have HB := n3_
           have HO174 := n4_
           clear n0_ n1_ n2_ n3_ n4_
           clear ho hb hg hat
           obtain ⟨Ao13, co13, eo13⟩ := Kd.R_slice HO174.out
           (first | subst eo13 | (injection eo13 with f1_ f2_ f3_; have f4_ := f1_.symm; have f5_ := f3_.symm; clear f1_ f2_ f3_; subst f4_; subst f5_))
           obtain ⟨Ao14, co14, eo14⟩ := Kd.R_slice HO171.out
           (first | subst eo14 | (injection eo14 with f1_ f2_ f3_; have f4_ := f1_.symm; have f5_ := f3_.symm; clear f1_ f2_ f3_; subst f4_; subst f5_))
           refine hK.out _ _ ⟨(zaa BK168.out 0).trans rfl, (zaa BK168.out 1).trans rfl, (zaa BK168.out 2).trans rfl, (zaa BK168.out 3).trans rfl, (zaa BK168.out 4).trans rfl, (zaa BK168.out 5).trans rfl, (zaa BK168.out 6).trans rfl, (zaa BK168.out 7).trans rfl⟩ (fun hHeld => ?_)
           clear hK K
           refine norm_ (a' := ?_) ?_ ?_
           rotate_left
           ·
            show Act.put _ (some 35) _ = _
            simp only [Act.put, List.setIfInBounds_toArray, List.set_cons_zero, List.set_cons_succ, i64_w, i32_w]
            rfl
           refine pure_ (i := 18) (N := some 36) (v := ?_) (a' := ?_) #[true, true, true, true, true, true, true, true, true, true, true, true, true, true, true, true, true, true, true, false, false] rfl rfl (zap HT_.out (by kernel_rfl)) (fun _ _ _ h => h) (Or.inl ⟨by rfl, ?_⟩) ?_ ?_
           rotate_left
           ·
            intro w'
            go_simp
            with_reducible rfl
           rotate_left
           ·
            simp only [Act.put, List.setIfInBounds_toArray, List.set_cons_zero, List.set_cons_succ, i64_w, i32_w]
            rfl
           refine one_ (i := 19) (N := some 6) #[true, true, true, true, true, true, true, true, true, true, true, true, true, true, true, true, true, true, true, true, false] rfl rfl (one_of HT_.out (by kernel_rfl)) (by decide) (fun K hK => ?_)
           refine box_step ?hg (N := 6) ?hd (cs := #[.int .i64 0, .string (⟨#[]⟩ : ByteArray), .string (⟨#[]⟩ : ByteArray), .string (⟨#[]⟩ : ByteArray), .slice none 0 0, .int .i64 0, .int .i64 0, .slice none 0 0]) (t := 55) ?hr ?_; (case hd => rfl); (case hg => rfl); (case hr => first | (go_simp; done) | (go_simp; rfl))
           intro gb175 hg w15 hbox hb
           have n0_ := Aside0.mk (Kd.S_below (by (with_reducible repeat (first | apply Kd.S_alloc | apply Kd.S_drewN | apply Kd.S_drew)); exact HO_3.out) hb)
           have n1_ := Aside0.mk (Kd.R_below (by (with_reducible repeat (first | apply Kd.R_alloc | apply Kd.R_drewN | apply Kd.R_drew)); exact HO171.out) hb)
           have n2_ := Aside0.mk (Kd.R_below (by (with_reducible repeat (first | apply Kd.R_alloc | apply Kd.R_drewN | apply Kd.R_drew)); exact HO174.out) hb)
           have n3_ := Aside0.mk (zbc (g := gb168) (o := .cells #[.int .i64 ((zaf l0 x4_1).f3.f0), .string ((zaf l0 x4_1).f3.f1), .string ((zaf l0 x4_1).f3.f2), .string ((zaf l0 x4_1).f3.f3), .slice A167_7 ((zaf l0 x4_1).f3.f4).length c167_7, .int .i64 ((zaf l0 x4_1).f3.f5), .int .i64 ((zaf l0 x4_1).f3.f6), .slice A167_10 ((zaf l0 x4_1).f3.f7).length c167_10] 34 (0, 0)) (by (with_reducible repeat (first | refine zah ?_ _ | refine zai ?_ | refine zag ?_ _)); exact BK168.out) hb)
           have n4_ := Aside0.mk (zan (by repeat (first | (with_reducible first | exact HB.out | apply zad | apply zab | apply zac | refine zak ?_ GE168.out) | exact HB.out)) hb)
           have n5_ := Aside0.mk (hbox)
           have n6_ := Aside0.mk ((by rw [hg]; exact (zaj (by repeat (first | (with_reducible first | exact HB.out | apply zad | apply zab | apply zac | refine zak ?_ GE168.out) | exact HB.out))) : w.heap.size ≤ gb175))
           have n7_ := Aside0.mk ((by rw [hg]; exact (zaj (by repeat (first | (with_reducible first | exact HB.out | apply zad | apply zab | apply zac | refine zak ?_ GE168.out) | exact HB.out))) : w.heap.size ≤ gb175))
           have n8_ := Aside0.mk ((by rw [hg]; exact Nat.ne_of_lt (blk_lt (g := gb168) (o := .cells #[.int .i64 ((zaf l0 x4_1).f3.f0), .string ((zaf l0 x4_1).f3.f1), .string ((zaf l0 x4_1).f3.f2), .string ((zaf l0 x4_1).f3.f3), .slice A167_7 ((zaf l0 x4_1).f3.f4).length c167_7, .int .i64 ((zaf l0 x4_1).f3.f5), .int .i64 ((zaf l0 x4_1).f3.f6), .slice A167_10 ((zaf l0 x4_1).f3.f7).length c167_10] 34 (0, 0)) (by (with_reducible repeat (first | refine zah ?_ _ | refine zai ?_ | refine zag ?_ _)); exact BK168.out)) : gb168 ≠ gb175))
           have n9_ := Aside0.mk ((by rw [hg]; exact Nat.ne_of_gt (blk_lt (g := gb168) (o := .cells #[.int .i64 ((zaf l0 x4_1).f3.f0), .string ((zaf l0 x4_1).f3.f1), .string ((zaf l0 x4_1).f3.f2), .string ((zaf l0 x4_1).f3.f3), .slice A167_7 ((zaf l0 x4_1).f3.f4).length c167_7, .int .i64 ((zaf l0 x4_1).f3.f5), .int .i64 ((zaf l0 x4_1).f3.f6), .slice A167_10 ((zaf l0 x4_1).f3.f7).length c167_10] 34 (0, 0)) (by (with_reducible repeat (first | refine zah ?_ _ | refine zai ?_ | refine zag ?_ _)); exact BK168.out)) : gb175 ≠ gb168))
           clear HO_3
           clear HO171
           clear HO174
           clear BK168
           clear HB
           have HO_3 := n0_
           have HO171 := n1_
           have HO174 := n2_
           have BK168 := n3_
           have HB := n4_
           have BK175 := n5_
           have GW175 := n6_
           have GE175 := n7_
           have NB168_175 := n8_
           have NB175_168 := n9_
           clear n0_ n1_ n2_ n3_ n4_ n5_ n6_ n7_ n8_ n9_
           clear hb hbox hg
           refine hK.out _ _ ⟨(zaa BK168.out 0).trans rfl, (zaa BK168.out 1).trans rfl, (zaa BK168.out 2).trans rfl, (zaa BK168.out 3).trans rfl, (zaa BK168.out 4).trans rfl, (zaa BK168.out 5).trans rfl, (zaa BK168.out 6).trans rfl, (zaa BK168.out 7).trans rfl⟩ (fun hHeld => ?_)
           clear hK K
           refine norm_ (a' := ?_) ?_ ?_
           rotate_left
           ·
            show Act.put _ (some 6) _ = _
            simp only [Act.put, List.setIfInBounds_toArray, List.set_cons_zero, List.set_cons_succ, i64_w, i32_w]
            rfl
           exact norm_ (by simp only [putAll, Act.put, List.setIfInBounds_toArray, List.set_cons_zero, List.set_cons_succ]) (hCont (.slice Ao14 y169.length co14, .slice Ao13 y172.length co13, gb175) _ ⟨hHeld, (by (with_reducible repeat (first | apply Kd.R_alloc | apply Kd.R_drewN | apply Kd.R_drew)); exact HO171.out), (by (with_reducible repeat (first | apply Kd.R_alloc | apply Kd.R_drewN | apply Kd.R_drew)); exact HO174.out), (by (with_reducible repeat (first | apply Kd.S_alloc | apply Kd.S_drewN | apply Kd.S_drew)); exact Kd.S_mono HO_3.out (fun _ hk => ⟨hk.1.2, hk.2⟩)), (by (with_reducible repeat (first | refine zah ?_ _ | refine zai ?_ | refine zag ?_ _)); exact BK168.out), (by (with_reducible repeat (first | refine zah ?_ _ | refine zai ?_ | refine zag ?_ _)); exact BK175.out), GW175.out, GE175.out, NB168_175.out, NB175_168.out, (by repeat (first | (with_reducible first | exact HB.out | apply zad | apply zab | apply zac | refine zak ?_ GE168.out | refine zak ?_ GE175.out) | exact HB.out))⟩)
          ·
           skip
           refine box_step ?hg (N := 6) ?hd (cs := #[.int .i64 0, .string (⟨#[]⟩ : ByteArray), .string (⟨#[]⟩ : ByteArray), .string (⟨#[]⟩ : ByteArray), .slice none 0 0, .int .i64 0, .int .i64 0, .slice none 0 0]) (t := 55) ?hr ?_; (case hd => rfl); (case hg => rfl); (case hr => first | (go_simp; done) | (go_simp; rfl))
           intro gb175 hg w12 hbox hb
           have n0_ := Aside0.mk (Kd.S_below (by (with_reducible repeat (first | apply Kd.S_alloc | apply Kd.S_drewN | apply Kd.S_drew)); exact HO_3.out) hb)
           have n1_ := Aside0.mk (Kd.R_below (by (with_reducible repeat (first | apply Kd.R_alloc | apply Kd.R_drewN | apply Kd.R_drew)); exact HO171.out) hb)
           have n2_ := Aside0.mk (zbc (g := gb168) (o := .cells #[.int .i64 ((zaf l0 x4_1).f3.f0), .string ((zaf l0 x4_1).f3.f1), .string ((zaf l0 x4_1).f3.f2), .string ((zaf l0 x4_1).f3.f3), .slice A167_7 ((zaf l0 x4_1).f3.f4).length c167_7, .int .i64 ((zaf l0 x4_1).f3.f5), .int .i64 ((zaf l0 x4_1).f3.f6), .slice A167_10 ((zaf l0 x4_1).f3.f7).length c167_10] 34 (0, 0)) (by (with_reducible repeat (first | refine zah ?_ _ | refine zai ?_ | refine zag ?_ _)); exact BK168.out) hb)
           have n3_ := Aside0.mk (zan (by repeat (first | (with_reducible first | exact HB.out | apply zad | apply zab | apply zac | refine zak ?_ GE168.out) | exact HB.out)) hb)
           have n4_ := Aside0.mk (hbox)
           have n5_ := Aside0.mk ((by rw [hg]; exact (zaj (by repeat (first | (with_reducible first | exact HB.out | apply zad | apply zab | apply zac | refine zak ?_ GE168.out) | exact HB.out))) : w.heap.size ≤ gb175))
           have n6_ := Aside0.mk ((by rw [hg]; exact (zaj (by repeat (first | (with_reducible first | exact HB.out | apply zad | apply zab | apply zac | refine zak ?_ GE168.out) | exact HB.out))) : w.heap.size ≤ gb175))
           have n7_ := Aside0.mk ((by rw [hg]; exact Nat.ne_of_lt (blk_lt (g := gb168) (o := .cells #[.int .i64 ((zaf l0 x4_1).f3.f0), .string ((zaf l0 x4_1).f3.f1), .string ((zaf l0 x4_1).f3.f2), .string ((zaf l0 x4_1).f3.f3), .slice A167_7 ((zaf l0 x4_1).f3.f4).length c167_7, .int .i64 ((zaf l0 x4_1).f3.f5), .int .i64 ((zaf l0 x4_1).f3.f6), .slice A167_10 ((zaf l0 x4_1).f3.f7).length c167_10] 34 (0, 0)) (by (with_reducible repeat (first | refine zah ?_ _ | refine zai ?_ | refine zag ?_ _)); exact BK168.out)) : gb168 ≠ gb175))
           have n8_ := Aside0.mk ((by rw [hg]; exact Nat.ne_of_gt (blk_lt (g := gb168) (o := .cells #[.int .i64 ((zaf l0 x4_1).f3.f0), .string ((zaf l0 x4_1).f3.f1), .string ((zaf l0 x4_1).f3.f2), .string ((zaf l0 x4_1).f3.f3), .slice A167_7 ((zaf l0 x4_1).f3.f4).length c167_7, .int .i64 ((zaf l0 x4_1).f3.f5), .int .i64 ((zaf l0 x4_1).f3.f6), .slice A167_10 ((zaf l0 x4_1).f3.f7).length c167_10] 34 (0, 0)) (by (with_reducible repeat (first | refine zah ?_ _ | refine zai ?_ | refine zag ?_ _)); exact BK168.out)) : gb175 ≠ gb168))
           clear HO_3
           clear HO171
           clear BK168
           clear HB
           have HO_3 := n0_
           have HO171 := n1_
           have BK168 := n2_
           have HB := n3_
           have BK175 := n4_
           have GW175 := n5_
           have GE175 := n6_
           have NB168_175 := n7_
           have NB175_168 := n8_
           clear n0_ n1_ n2_ n3_ n4_ n5_ n6_ n7_ n8_
           clear hb hbox hg
           refine hK.out _ _ ⟨(zaa BK168.out 0).trans rfl, (zaa BK168.out 1).trans rfl, (zaa BK168.out 2).trans rfl, (zaa BK168.out 3).trans rfl, (zaa BK168.out 4).trans rfl, (zaa BK168.out 5).trans rfl, (zaa BK168.out 6).trans rfl, (zaa BK168.out 7).trans rfl⟩ (fun hHeld => ?_)
           clear hK K
           refine norm_ (a' := ?_) ?_ ?_
           rotate_left
           ·
            show Act.put _ (some 6) _ = _
            simp only [Act.put, List.setIfInBounds_toArray, List.set_cons_zero, List.set_cons_succ, i64_w, i32_w]
            rfl
           refine one_ (i := 17) (N := some 35) #[true, true, true, true, true, true, true, true, true, true, true, true, true, true, true, true, true, true, false, true, false] rfl rfl (one_of HT_.out (by kernel_rfl)) (by decide) (fun K hK => ?_)
           refine Kd.R_append_rows_step (Kd.int .i64) (w0 := w) w.heap.size (by rfl) (.const (.slice none 0 0)) (.tmp 34) 32 3 (.int .i64 0) 8 rfl Tryd.underlying32 info3 rfl (by decide) (by omega) (.slice none 0 0) ([] : List Int) ((zaf l0 x4_1).f3.f7) _ _ _ (fun _ => True) (fun _ => False) rfl rfl ?aO ?aR (fun _ _ h => h) (fun _ h => h.elim) ?aF ?aB ?aS ?aL ?_
           (case aR => repeat (first | exact (Kd.C_below HR167_10.out HB.out) | (with_reducible refine Kd.C_alloc ?_ _) | (with_reducible refine Kd.C_drewN ?_ _) | (with_reducible refine Kd.C_drew ?_)))
           (case aB => exact (by repeat (first | (with_reducible first | exact HB.out | apply zad | apply zab | apply zac | refine zak ?_ GE168.out | refine zak ?_ GE175.out) | exact HB.out)))
           (case aF => exact (fun _ _ => trivial))
           (case aO => exact ((Kd.R_nil _ _ _ _ (fun _ => True))))
           (case aS => exact (zaj (by repeat (first | (with_reducible first | exact HB.out | apply zad | apply zab | apply zac | refine zak ?_ GE168.out | refine zak ?_ GE175.out) | exact HB.out))))
           (case aL => have := LMc5.out; omega)
           intro v173 w13 ho hb hg hat
           rw [← Ny172.out] at ho
           have n0_ := Aside0.mk (Kd.S_after (Kd.S_apart_nil (by (with_reducible repeat (first | apply Kd.S_alloc | apply Kd.S_drewN | apply Kd.S_drew)); exact HO_3.out)) hg hat)
           have n1_ := Aside0.mk (zbp (g := gb168) (o := .cells #[.int .i64 ((zaf l0 x4_1).f3.f0), .string ((zaf l0 x4_1).f3.f1), .string ((zaf l0 x4_1).f3.f2), .string ((zaf l0 x4_1).f3.f3), .slice A167_7 ((zaf l0 x4_1).f3.f4).length c167_7, .int .i64 ((zaf l0 x4_1).f3.f5), .int .i64 ((zaf l0 x4_1).f3.f6), .slice A167_10 ((zaf l0 x4_1).f3.f7).length c167_10] 34 (0, 0)) (by (with_reducible repeat (first | refine zah ?_ _ | refine zai ?_ | refine zag ?_ _)); exact BK168.out) hg (by simp [Value.ownBlock]))
           have n2_ := Aside0.mk (Kd.R_grown (by (with_reducible repeat (first | apply Kd.R_alloc | apply Kd.R_drewN | apply Kd.R_drew)); exact HO171.out) hg (fun _ _ => by simp [Value.ownBlock]))
           have n3_ := Aside0.mk (zbp (g := gb175) (o := .cells #[.int .i64 0, .string (⟨#[]⟩ : ByteArray), .string (⟨#[]⟩ : ByteArray), .string (⟨#[]⟩ : ByteArray), .slice none 0 0, .int .i64 0, .int .i64 0, .slice none 0 0] 55 (0, 0)) (by (with_reducible repeat (first | refine zah ?_ _ | refine zai ?_ | refine zag ?_ _)); exact BK175.out) hg (by simp [Value.ownBlock]))
           have n4_ := Aside0.mk (hb)
           have n5_ := Aside0.mk (ho)
           clear HO_3
           clear BK168
           clear HO171
           clear BK175
           clear HB
           have HO_3 := n0_
           have BK168 := n1_
           have HO171 := n2_
           have BK175 := n3_
           have HB := n4_
           have HO174 := n5_
           clear n0_ n1_ n2_ n3_ n4_ n5_
           clear ho hb hg hat
           obtain ⟨Ao14, co14, eo14⟩ := Kd.R_slice HO174.out
           (first | subst eo14 | (injection eo14 with f1_ f2_ f3_; have f4_ := f1_.symm; have f5_ := f3_.symm; clear f1_ f2_ f3_; subst f4_; subst f5_))
           obtain ⟨Ao15, co15, eo15⟩ := Kd.R_slice HO171.out
           (first | subst eo15 | (injection eo15 with f1_ f2_ f3_; have f4_ := f1_.symm; have f5_ := f3_.symm; clear f1_ f2_ f3_; subst f4_; subst f5_))
           refine hK.out _ _ ⟨(zaa BK168.out 0).trans rfl, (zaa BK168.out 1).trans rfl, (zaa BK168.out 2).trans rfl, (zaa BK168.out 3).trans rfl, (zaa BK168.out 4).trans rfl, (zaa BK168.out 5).trans rfl, (zaa BK168.out 6).trans rfl, (zaa BK168.out 7).trans rfl⟩ (fun hHeld => ?_)
           clear hK K
           refine norm_ (a' := ?_) ?_ ?_
           rotate_left
           ·
            show Act.put _ (some 35) _ = _
            simp only [Act.put, List.setIfInBounds_toArray, List.set_cons_zero, List.set_cons_succ, i64_w, i32_w]
            rfl
           refine pure_ (i := 18) (N := some 36) (v := ?_) (a' := ?_) #[true, true, true, true, true, true, true, true, true, true, true, true, true, true, true, true, true, true, true, true, false] rfl rfl (zap HT_.out (by kernel_rfl)) (fun _ _ _ h => h) (Or.inl ⟨by rfl, ?_⟩) ?_ ?_
           rotate_left
           ·
            intro w'
            go_simp
            with_reducible rfl
           rotate_left
           ·
            simp only [Act.put, List.setIfInBounds_toArray, List.set_cons_zero, List.set_cons_succ, i64_w, i32_w]
            rfl
           exact norm_ (by simp only [putAll, Act.put, List.setIfInBounds_toArray, List.set_cons_zero, List.set_cons_succ]) (hCont (.slice Ao15 y169.length co15, .slice Ao14 y172.length co14, gb175) _ ⟨hHeld, (by (with_reducible repeat (first | apply Kd.R_alloc | apply Kd.R_drewN | apply Kd.R_drew)); exact HO171.out), (by (with_reducible repeat (first | apply Kd.R_alloc | apply Kd.R_drewN | apply Kd.R_drew)); exact HO174.out), (by (with_reducible repeat (first | apply Kd.S_alloc | apply Kd.S_drewN | apply Kd.S_drew)); exact Kd.S_mono HO_3.out (fun _ hk => ⟨hk.1.2, hk.2⟩)), (by (with_reducible repeat (first | refine zah ?_ _ | refine zai ?_ | refine zag ?_ _)); exact BK168.out), (by (with_reducible repeat (first | refine zah ?_ _ | refine zai ?_ | refine zag ?_ _)); exact BK175.out), GW175.out, GE175.out, NB168_175.out, NB175_168.out, (by repeat (first | (with_reducible first | exact HB.out | apply zad | apply zab | apply zac | refine zak ?_ GE168.out | refine zak ?_ GE175.out) | exact HB.out))⟩)
         ·
          skip
          refine box_step ?hg (N := 6) ?hd (cs := #[.int .i64 0, .string (⟨#[]⟩ : ByteArray), .string (⟨#[]⟩ : ByteArray), .string (⟨#[]⟩ : ByteArray), .slice none 0 0, .int .i64 0, .int .i64 0, .slice none 0 0]) (t := 55) ?hr ?_; (case hd => rfl); (case hg => rfl); (case hr => first | (go_simp; done) | (go_simp; rfl))
          intro gb175 hg w11 hbox hb
          have n0_ := Aside0.mk (Kd.S_below (by (with_reducible repeat (first | apply Kd.S_alloc | apply Kd.S_drewN | apply Kd.S_drew)); exact HO_3.out) hb)
          have n1_ := Aside0.mk (zbc (g := gb168) (o := .cells #[.int .i64 ((zaf l0 x4_1).f3.f0), .string ((zaf l0 x4_1).f3.f1), .string ((zaf l0 x4_1).f3.f2), .string ((zaf l0 x4_1).f3.f3), .slice A167_7 ((zaf l0 x4_1).f3.f4).length c167_7, .int .i64 ((zaf l0 x4_1).f3.f5), .int .i64 ((zaf l0 x4_1).f3.f6), .slice A167_10 ((zaf l0 x4_1).f3.f7).length c167_10] 34 (0, 0)) (by (with_reducible repeat (first | refine zah ?_ _ | refine zai ?_ | refine zag ?_ _)); exact BK168.out) hb)
          have n2_ := Aside0.mk (zan (by repeat (first | (with_reducible first | exact HB.out | apply zad | apply zab | apply zac | refine zak ?_ GE168.out) | exact HB.out)) hb)
          have n3_ := Aside0.mk (hbox)
          have n4_ := Aside0.mk ((by rw [hg]; exact (zaj (by repeat (first | (with_reducible first | exact HB.out | apply zad | apply zab | apply zac | refine zak ?_ GE168.out) | exact HB.out))) : w.heap.size ≤ gb175))
          have n5_ := Aside0.mk ((by rw [hg]; exact (zaj (by repeat (first | (with_reducible first | exact HB.out | apply zad | apply zab | apply zac | refine zak ?_ GE168.out) | exact HB.out))) : w.heap.size ≤ gb175))
          have n6_ := Aside0.mk ((by rw [hg]; exact Nat.ne_of_lt (blk_lt (g := gb168) (o := .cells #[.int .i64 ((zaf l0 x4_1).f3.f0), .string ((zaf l0 x4_1).f3.f1), .string ((zaf l0 x4_1).f3.f2), .string ((zaf l0 x4_1).f3.f3), .slice A167_7 ((zaf l0 x4_1).f3.f4).length c167_7, .int .i64 ((zaf l0 x4_1).f3.f5), .int .i64 ((zaf l0 x4_1).f3.f6), .slice A167_10 ((zaf l0 x4_1).f3.f7).length c167_10] 34 (0, 0)) (by (with_reducible repeat (first | refine zah ?_ _ | refine zai ?_ | refine zag ?_ _)); exact BK168.out)) : gb168 ≠ gb175))
          have n7_ := Aside0.mk ((by rw [hg]; exact Nat.ne_of_gt (blk_lt (g := gb168) (o := .cells #[.int .i64 ((zaf l0 x4_1).f3.f0), .string ((zaf l0 x4_1).f3.f1), .string ((zaf l0 x4_1).f3.f2), .string ((zaf l0 x4_1).f3.f3), .slice A167_7 ((zaf l0 x4_1).f3.f4).length c167_7, .int .i64 ((zaf l0 x4_1).f3.f5), .int .i64 ((zaf l0 x4_1).f3.f6), .slice A167_10 ((zaf l0 x4_1).f3.f7).length c167_10] 34 (0, 0)) (by (with_reducible repeat (first | refine zah ?_ _ | refine zai ?_ | refine zag ?_ _)); exact BK168.out)) : gb175 ≠ gb168))
          clear HO_3
          clear BK168
          clear HB
          have HO_3 := n0_
          have BK168 := n1_
          have HB := n2_
          have BK175 := n3_
          have GW175 := n4_
          have GE175 := n5_
          have NB168_175 := n6_
          have NB175_168 := n7_
          clear n0_ n1_ n2_ n3_ n4_ n5_ n6_ n7_
          clear hb hbox hg
          refine hK.out _ _ ⟨(zaa BK168.out 0).trans rfl, (zaa BK168.out 1).trans rfl, (zaa BK168.out 2).trans rfl, (zaa BK168.out 3).trans rfl, (zaa BK168.out 4).trans rfl, (zaa BK168.out 5).trans rfl, (zaa BK168.out 6).trans rfl, (zaa BK168.out 7).trans rfl⟩ (fun hHeld => ?_)
          clear hK K
          refine norm_ (a' := ?_) ?_ ?_
          rotate_left
          ·
           show Act.put _ (some 6) _ = _
           simp only [Act.put, List.setIfInBounds_toArray, List.set_cons_zero, List.set_cons_succ, i64_w, i32_w]
           rfl
          refine one_ (i := 10) (N := some 28) #[true, true, true, true, true, true, true, true, true, true, true, true, true, true, true, true, true, false, false, true, false] rfl rfl (one_of HT_.out (by kernel_rfl)) (by decide) (fun K hK => ?_)
          refine Kd.R_append_rows_step k38 (w0 := w) w.heap.size (by rfl) (.const (.slice none 0 0)) (.tmp 27) 31 38 (.agg #[(.string ⟨#[]⟩), (.string ⟨#[]⟩)]) 32 rfl Tryd.underlying31 info38 rfl (by decide) (by omega) (.slice none 0 0) ([] : List (S38)) ((zaf l0 x4_1).f3.f4) _ _ _ (fun _ => True) (fun _ => False) rfl rfl ?aO ?aR (fun _ _ h => h) (fun _ h => h.elim) ?aF ?aB ?aS ?aL ?_
          (case aR => repeat (first | exact (Kd.C_below HR167_7.out HB.out) | (with_reducible refine Kd.C_alloc ?_ _) | (with_reducible refine Kd.C_drewN ?_ _) | (with_reducible refine Kd.C_drew ?_)))
          (case aB => exact (by repeat (first | (with_reducible first | exact HB.out | apply zad | apply zab | apply zac | refine zak ?_ GE168.out | refine zak ?_ GE175.out) | exact HB.out)))
          (case aF => exact (fun _ _ => trivial))
          (case aO => exact ((Kd.R_nil _ _ _ _ (fun _ => True))))
          (case aS => exact (zaj (by repeat (first | (with_reducible first | exact HB.out | apply zad | apply zab | apply zac | refine zak ?_ GE168.out | refine zak ?_ GE175.out) | exact HB.out))))
          (case aL => have := LMc4.out; omega)
          intro v170 w12 ho hb hg hat
          rw [← Ny169.out] at ho
          have n0_ := Aside0.mk (Kd.S_after (Kd.S_apart_nil (by (with_reducible repeat (first | apply Kd.S_alloc | apply Kd.S_drewN | apply Kd.S_drew)); exact HO_3.out)) hg hat)
          have n1_ := Aside0.mk (zbp (g := gb168) (o := .cells #[.int .i64 ((zaf l0 x4_1).f3.f0), .string ((zaf l0 x4_1).f3.f1), .string ((zaf l0 x4_1).f3.f2), .string ((zaf l0 x4_1).f3.f3), .slice A167_7 ((zaf l0 x4_1).f3.f4).length c167_7, .int .i64 ((zaf l0 x4_1).f3.f5), .int .i64 ((zaf l0 x4_1).f3.f6), .slice A167_10 ((zaf l0 x4_1).f3.f7).length c167_10] 34 (0, 0)) (by (with_reducible repeat (first | refine zah ?_ _ | refine zai ?_ | refine zag ?_ _)); exact BK168.out) hg (by simp [Value.ownBlock]))
          have n2_ := Aside0.mk (zbp (g := gb175) (o := .cells #[.int .i64 0, .string (⟨#[]⟩ : ByteArray), .string (⟨#[]⟩ : ByteArray), .string (⟨#[]⟩ : ByteArray), .slice none 0 0, .int .i64 0, .int .i64 0, .slice none 0 0] 55 (0, 0)) (by (with_reducible repeat (first | refine zah ?_ _ | refine zai ?_ | refine zag ?_ _)); exact BK175.out) hg (by simp [Value.ownBlock]))
          have n3_ := Aside0.mk (hb)
          have n4_ := Aside0.mk (ho)
          clear HO_3
          clear BK168
          clear BK175
          clear HB
          have HO_3 := n0_
          have BK168 := n1_
          have BK175 := n2_
          have HB := n3_
          have HO171 := n4_
          clear n0_ n1_ n2_ n3_ n4_
          clear ho hb hg hat
          refine hK.out _ _ ⟨(zaa BK168.out 0).trans rfl, (zaa BK168.out 1).trans rfl, (zaa BK168.out 2).trans rfl, (zaa BK168.out 3).trans rfl, (zaa BK168.out 4).trans rfl, (zaa BK168.out 5).trans rfl, (zaa BK168.out 6).trans rfl, (zaa BK168.out 7).trans rfl⟩ (fun hHeld => ?_)
          clear hK K
          refine norm_ (a' := ?_) ?_ ?_
          rotate_left
          ·
           show Act.put _ (some 28) _ = _
           simp only [Act.put, List.setIfInBounds_toArray, List.set_cons_zero, List.set_cons_succ, i64_w, i32_w]
           rfl
          refine one_ (i := 17) (N := some 35) #[true, true, true, true, true, true, true, true, true, true, true, true, true, true, true, true, true, true, false, true, false] rfl rfl (one_of HT_.out (by kernel_rfl)) (by decide) (fun K hK => ?_)
          refine Kd.R_append_rows_step (Kd.int .i64) (w0 := w) w.heap.size (by rfl) (.const (.slice none 0 0)) (.tmp 34) 32 3 (.int .i64 0) 8 rfl Tryd.underlying32 info3 rfl (by decide) (by omega) (.slice none 0 0) ([] : List Int) ((zaf l0 x4_1).f3.f7) _ _ _ (fun _ => True) (fun _ => False) rfl rfl ?aO ?aR (fun _ _ h => h) (fun _ h => h.elim) ?aF ?aB ?aS ?aL ?_
          (case aR => repeat (first | exact (Kd.C_below HR167_10.out HB.out) | (with_reducible refine Kd.C_alloc ?_ _) | (with_reducible refine Kd.C_drewN ?_ _) | (with_reducible refine Kd.C_drew ?_)))
          (case aB => exact (by repeat (first | (with_reducible first | exact HB.out | apply zad | apply zab | apply zac | refine zak ?_ GE168.out | refine zak ?_ GE175.out) | exact HB.out)))
          (case aF => exact (fun _ _ => trivial))
          (case aO => exact ((Kd.R_nil _ _ _ _ (fun _ => True))))
          (case aS => exact (zaj (by repeat (first | (with_reducible first | exact HB.out | apply zad | apply zab | apply zac | refine zak ?_ GE168.out | refine zak ?_ GE175.out) | exact HB.out))))
          (case aL => have := LMc5.out; omega)
          intro v173 w13 ho hb hg hat
          rw [← Ny172.out] at ho
          have n0_ := Aside0.mk (Kd.S_after (Kd.S_apart_nil (by (with_reducible repeat (first | apply Kd.S_alloc | apply Kd.S_drewN | apply Kd.S_drew)); exact HO_3.out)) hg hat)
          have n1_ := Aside0.mk (zbp (g := gb168) (o := .cells #[.int .i64 ((zaf l0 x4_1).f3.f0), .string ((zaf l0 x4_1).f3.f1), .string ((zaf l0 x4_1).f3.f2), .string ((zaf l0 x4_1).f3.f3), .slice A167_7 ((zaf l0 x4_1).f3.f4).length c167_7, .int .i64 ((zaf l0 x4_1).f3.f5), .int .i64 ((zaf l0 x4_1).f3.f6), .slice A167_10 ((zaf l0 x4_1).f3.f7).length c167_10] 34 (0, 0)) (by (with_reducible repeat (first | refine zah ?_ _ | refine zai ?_ | refine zag ?_ _)); exact BK168.out) hg (by simp [Value.ownBlock]))
          have n2_ := Aside0.mk (zbp (g := gb175) (o := .cells #[.int .i64 0, .string (⟨#[]⟩ : ByteArray), .string (⟨#[]⟩ : ByteArray), .string (⟨#[]⟩ : ByteArray), .slice none 0 0, .int .i64 0, .int .i64 0, .slice none 0 0] 55 (0, 0)) (by (with_reducible repeat (first | refine zah ?_ _ | refine zai ?_ | refine zag ?_ _)); exact BK175.out) hg (by simp [Value.ownBlock]))
          have n3_ := Aside0.mk (Kd.R_grown (by (with_reducible repeat (first | apply Kd.R_alloc | apply Kd.R_drewN | apply Kd.R_drew)); exact HO171.out) hg (fun _ _ => by simp [Value.ownBlock]))
          have n4_ := Aside0.mk (hb)
          have n5_ := Aside0.mk (ho)
          clear HO_3
          clear BK168
          clear BK175
          clear HO171
          clear HB
          have HO_3 := n0_
          have BK168 := n1_
          have BK175 := n2_
          have HO171 := n3_
          have HB := n4_
          have HO174 := n5_
          clear n0_ n1_ n2_ n3_ n4_ n5_
          clear ho hb hg hat
          obtain ⟨Ao14, co14, eo14⟩ := Kd.R_slice HO174.out
          (first | subst eo14 | (injection eo14 with f1_ f2_ f3_; have f4_ := f1_.symm; have f5_ := f3_.symm; clear f1_ f2_ f3_; subst f4_; subst f5_))
          obtain ⟨Ao15, co15, eo15⟩ := Kd.R_slice HO171.out
          (first | subst eo15 | (injection eo15 with f1_ f2_ f3_; have f4_ := f1_.symm; have f5_ := f3_.symm; clear f1_ f2_ f3_; subst f4_; subst f5_))
          refine hK.out _ _ ⟨(zaa BK168.out 0).trans rfl, (zaa BK168.out 1).trans rfl, (zaa BK168.out 2).trans rfl, (zaa BK168.out 3).trans rfl, (zaa BK168.out 4).trans rfl, (zaa BK168.out 5).trans rfl, (zaa BK168.out 6).trans rfl, (zaa BK168.out 7).trans rfl⟩ (fun hHeld => ?_)
          clear hK K
          refine norm_ (a' := ?_) ?_ ?_
          rotate_left
          ·
           show Act.put _ (some 35) _ = _
           simp only [Act.put, List.setIfInBounds_toArray, List.set_cons_zero, List.set_cons_succ, i64_w, i32_w]
           rfl
          refine pure_ (i := 18) (N := some 36) (v := ?_) (a' := ?_) #[true, true, true, true, true, true, true, true, true, true, true, true, true, true, true, true, true, true, true, true, false] rfl rfl (zap HT_.out (by kernel_rfl)) (fun _ _ _ h => h) (Or.inl ⟨by rfl, ?_⟩) ?_ ?_
          rotate_left
          ·
           intro w'
           go_simp
           with_reducible rfl
          rotate_left
          ·
           simp only [Act.put, List.setIfInBounds_toArray, List.set_cons_zero, List.set_cons_succ, i64_w, i32_w]
           rfl
          exact norm_ (by simp only [putAll, Act.put, List.setIfInBounds_toArray, List.set_cons_zero, List.set_cons_succ]) (hCont (.slice Ao15 y169.length co15, .slice Ao14 y172.length co14, gb175) _ ⟨hHeld, (by (with_reducible repeat (first | apply Kd.R_alloc | apply Kd.R_drewN | apply Kd.R_drew)); exact HO171.out), (by (with_reducible repeat (first | apply Kd.R_alloc | apply Kd.R_drewN | apply Kd.R_drew)); exact HO174.out), (by (with_reducible repeat (first | apply Kd.S_alloc | apply Kd.S_drewN | apply Kd.S_drew)); exact Kd.S_mono HO_3.out (fun _ hk => ⟨hk.1.2, hk.2⟩)), (by (with_reducible repeat (first | refine zah ?_ _ | refine zai ?_ | refine zag ?_ _)); exact BK168.out), (by (with_reducible repeat (first | refine zah ?_ _ | refine zai ?_ | refine zag ?_ _)); exact BK175.out), GW175.out, GE175.out, NB168_175.out, NB175_168.out, (by repeat (first | (with_reducible first | exact HB.out | apply zad | apply zab | apply zac | refine zak ?_ GE168.out | refine zak ?_ GE175.out) | exact HB.out))⟩)
        rintro ⟨v170, v173, gb175⟩ w16 ⟨hS_, h0_, h1_, h2_, h3_, h4_, h5_, h6_, h7_, h8_, h9_⟩
        have n0_ : Aside0 (Kd.R k38 38 w16 w.heap.size (fun _ => True) v170 y169) := ⟨h0_⟩
        have n1_ : Aside0 (Kd.R (Kd.int .i64) 3 w16 w.heap.size (fun _ => True) v173 y172) := ⟨h1_⟩
        have n2_ : Aside0 (Kd.S k57 57 w16 w.heap.size (fun k_ => some k_ ≠ (v170 : Value).ownBlock ∧ some k_ ≠ (v173 : Value).ownBlock) u3 x3_1) := ⟨h2_⟩
        have n3_ : Aside0 (w16.heap[gb168]? = some (.cells #[.int .i64 ((zaf l0 x4_1).f3.f0), .string ((zaf l0 x4_1).f3.f1), .string ((zaf l0 x4_1).f3.f2), .string ((zaf l0 x4_1).f3.f3), .slice A167_7 ((zaf l0 x4_1).f3.f4).length c167_7, .int .i64 ((zaf l0 x4_1).f3.f5), .int .i64 ((zaf l0 x4_1).f3.f6), .slice A167_10 ((zaf l0 x4_1).f3.f7).length c167_10] 34 (0, 0))) := ⟨h3_⟩
        have n4_ : Aside0 (w16.heap[gb175]? = some (.cells #[.int .i64 0, .string (⟨#[]⟩ : ByteArray), .string (⟨#[]⟩ : ByteArray), .string (⟨#[]⟩ : ByteArray), .slice none 0 0, .int .i64 0, .int .i64 0, .slice none 0 0] 55 (0, 0))) := ⟨h4_⟩
        have n5_ : Aside0 (w.heap.size ≤ gb175) := ⟨h5_⟩
        have n6_ : Aside0 (w.heap.size ≤ gb175) := ⟨h6_⟩
        have n7_ : Aside0 (gb168 ≠ gb175) := ⟨h7_⟩
        have n8_ : Aside0 (gb175 ≠ gb168) := ⟨h8_⟩
        have n9_ : Aside0 (Below w.heap.size w w16) := ⟨h9_⟩
        clear HO_3
        clear BK168
        clear HB
        clear h0_ h1_ h2_ h3_ h4_ h5_ h6_ h7_ h8_ h9_
        have HO171 := n0_
        have HO174 := n1_
        have HO_3 := n2_
        have BK168 := n3_
        have BK175 := n4_
        have GW175 := n5_
        have GE175 := n6_
        have NB168_175 := n7_
        have NB175_168 := n8_
        have HB := n9_
        clear n0_ n1_ n2_ n3_ n4_ n5_ n6_ n7_ n8_ n9_
        have hHeld : w16.cell? ⟨gb168, 0, none⟩ = some (.int .i64 ((zaf l0 x4_1).f3.f0)) ∧ w16.cell? ⟨gb168, 1, none⟩ = some (.string ((zaf l0 x4_1).f3.f1)) ∧ w16.cell? ⟨gb168, 2, none⟩ = some (.string ((zaf l0 x4_1).f3.f2)) ∧ w16.cell? ⟨gb168, 3, none⟩ = some (.string ((zaf l0 x4_1).f3.f3)) ∧ w16.cell? ⟨gb168, 4, none⟩ = some (.slice A167_7 ((zaf l0 x4_1).f3.f4).length c167_7) ∧ w16.cell? ⟨gb168, 5, none⟩ = some (.int .i64 ((zaf l0 x4_1).f3.f5)) ∧ w16.cell? ⟨gb168, 6, none⟩ = some (.int .i64 ((zaf l0 x4_1).f3.f6)) ∧ w16.cell? ⟨gb168, 7, none⟩ = some (.slice A167_10 ((zaf l0 x4_1).f3.f7).length c167_10) := hS_
        obtain ⟨Ao17, co17, eo17⟩ := Kd.R_slice HO174.out
        (first | subst eo17 | (injection eo17 with f1_ f2_ f3_; have f4_ := f1_.symm; have f5_ := f3_.symm; clear f1_ f2_ f3_; subst f4_; subst f5_))
        obtain ⟨Ao18, co18, eo18⟩ := Kd.R_slice HO171.out
        (first | subst eo18 | (injection eo18 with f1_ f2_ f3_; have f4_ := f1_.symm; have f5_ := f3_.symm; clear f1_ f2_ f3_; subst f4_; subst f5_))
        refine norm_ (a' := ?_) ?_ ?_
        rotate_left
        ·
         simp only [putAll, Act.put, List.setIfInBounds_toArray, List.set_cons_zero, List.set_cons_succ]
         rfl
        refine one_ (i := 20) (N := none) #[true, true, true, true, true, true, true, true, true, true, true, true, true, true, true, true, true, true, true, true, true] rfl rfl (one_of HT_.out (by kernel_rfl)) (by decide) (fun K hK => ?_)
        have hs19 : w16.cell? ⟨gb175, 0, none⟩ = some (.int .i64 0) := (zaa BK175.out 0).trans rfl
        have hfs19 := zae BK175.out 0
        have hns19_0 := NB168_175.out
        have hms19_0 := NB175_168.out
        have hs20 : w16.cell? ⟨gb175, 1, none⟩ = some (.string (⟨#[]⟩ : ByteArray)) := (zaa BK175.out 1).trans rfl
        have hfs20 := zae BK175.out 1
        have hns20_0 := NB168_175.out
        have hms20_0 := NB175_168.out
        have hs21 : w16.cell? ⟨gb175, 2, none⟩ = some (.string (⟨#[]⟩ : ByteArray)) := (zaa BK175.out 2).trans rfl
        have hfs21 := zae BK175.out 2
        have hns21_0 := NB168_175.out
        have hms21_0 := NB175_168.out
        have hs22 : w16.cell? ⟨gb175, 3, none⟩ = some (.string (⟨#[]⟩ : ByteArray)) := (zaa BK175.out 3).trans rfl
        have hfs22 := zae BK175.out 3
        have hns22_0 := NB168_175.out
        have hms22_0 := NB175_168.out
        have hs23 : w16.cell? ⟨gb175, 4, none⟩ = some (.slice none 0 0) := (zaa BK175.out 4).trans rfl
        have hfs23 := zae BK175.out 4
        have hns23_0 := NB168_175.out
        have hms23_0 := NB175_168.out
        have hs24 : w16.cell? ⟨gb175, 5, none⟩ = some (.int .i64 0) := (zaa BK175.out 5).trans rfl
        have hfs24 := zae BK175.out 5
        have hns24_0 := NB168_175.out
        have hms24_0 := NB175_168.out
        have hs25 : w16.cell? ⟨gb175, 6, none⟩ = some (.int .i64 0) := (zaa BK175.out 6).trans rfl
        have hfs25 := zae BK175.out 6
        have hns25_0 := NB168_175.out
        have hms25_0 := NB175_168.out
        have hs26 : w16.cell? ⟨gb175, 7, none⟩ = some (.slice none 0 0) := (zaa BK175.out 7).trans rfl
        have hfs26 := zae BK175.out 7
        have hns26_0 := NB168_175.out
        have hms26_0 := NB175_168.out
        refine skip_ (w1 := ?_) (by rfl) rfl ?_ ?_
        rotate_left
        ·
         go_simp
         rfl
        refine hK.out _ _ ⟨((zar (p := ⟨gb175, _, none⟩) NB168_175.out _).trans (((zar (p := ⟨gb175, _, none⟩) NB168_175.out _).trans (((zar (p := ⟨gb175, _, none⟩) NB168_175.out _).trans (((zar (p := ⟨gb175, _, none⟩) NB168_175.out _).trans (((zar (p := ⟨gb175, _, none⟩) NB168_175.out _).trans (((zar (p := ⟨gb175, _, none⟩) NB168_175.out _).trans (((zar (p := ⟨gb175, _, none⟩) NB168_175.out _).trans (((zar (p := ⟨gb175, _, none⟩) NB168_175.out _).trans (hHeld.1)))))))))))))))), ((zar (p := ⟨gb175, _, none⟩) NB168_175.out _).trans (((zar (p := ⟨gb175, _, none⟩) NB168_175.out _).trans (((zar (p := ⟨gb175, _, none⟩) NB168_175.out _).trans (((zar (p := ⟨gb175, _, none⟩) NB168_175.out _).trans (((zar (p := ⟨gb175, _, none⟩) NB168_175.out _).trans (((zar (p := ⟨gb175, _, none⟩) NB168_175.out _).trans (((zar (p := ⟨gb175, _, none⟩) NB168_175.out _).trans (((zar (p := ⟨gb175, _, none⟩) NB168_175.out _).trans (hHeld.2.1)))))))))))))))), ((zar (p := ⟨gb175, _, none⟩) NB168_175.out _).trans (((zar (p := ⟨gb175, _, none⟩) NB168_175.out _).trans (((zar (p := ⟨gb175, _, none⟩) NB168_175.out _).trans (((zar (p := ⟨gb175, _, none⟩) NB168_175.out _).trans (((zar (p := ⟨gb175, _, none⟩) NB168_175.out _).trans (((zar (p := ⟨gb175, _, none⟩) NB168_175.out _).trans (((zar (p := ⟨gb175, _, none⟩) NB168_175.out _).trans (((zar (p := ⟨gb175, _, none⟩) NB168_175.out _).trans (hHeld.2.2.1)))))))))))))))), ((zar (p := ⟨gb175, _, none⟩) NB168_175.out _).trans (((zar (p := ⟨gb175, _, none⟩) NB168_175.out _).trans (((zar (p := ⟨gb175, _, none⟩) NB168_175.out _).trans (((zar (p := ⟨gb175, _, none⟩) NB168_175.out _).trans (((zar (p := ⟨gb175, _, none⟩) NB168_175.out _).trans (((zar (p := ⟨gb175, _, none⟩) NB168_175.out _).trans (((zar (p := ⟨gb175, _, none⟩) NB168_175.out _).trans (((zar (p := ⟨gb175, _, none⟩) NB168_175.out _).trans (hHeld.2.2.2.1)))))))))))))))), ((zar (p := ⟨gb175, _, none⟩) NB168_175.out _).trans (((zar (p := ⟨gb175, _, none⟩) NB168_175.out _).trans (((zar (p := ⟨gb175, _, none⟩) NB168_175.out _).trans (((zar (p := ⟨gb175, _, none⟩) NB168_175.out _).trans (((zar (p := ⟨gb175, _, none⟩) NB168_175.out _).trans (((zar (p := ⟨gb175, _, none⟩) NB168_175.out _).trans (((zar (p := ⟨gb175, _, none⟩) NB168_175.out _).trans (((zar (p := ⟨gb175, _, none⟩) NB168_175.out _).trans (hHeld.2.2.2.2.1)))))))))))))))), ((zar (p := ⟨gb175, _, none⟩) NB168_175.out _).trans (((zar (p := ⟨gb175, _, none⟩) NB168_175.out _).trans (((zar (p := ⟨gb175, _, none⟩) NB168_175.out _).trans (((zar (p := ⟨gb175, _, none⟩) NB168_175.out _).trans (((zar (p := ⟨gb175, _, none⟩) NB168_175.out _).trans (((zar (p := ⟨gb175, _, none⟩) NB168_175.out _).trans (((zar (p := ⟨gb175, _, none⟩) NB168_175.out _).trans (((zar (p := ⟨gb175, _, none⟩) NB168_175.out _).trans (hHeld.2.2.2.2.2.1)))))))))))))))), ((zar (p := ⟨gb175, _, none⟩) NB168_175.out _).trans (((zar (p := ⟨gb175, _, none⟩) NB168_175.out _).trans (((zar (p := ⟨gb175, _, none⟩) NB168_175.out _).trans (((zar (p := ⟨gb175, _, none⟩) NB168_175.out _).trans (((zar (p := ⟨gb175, _, none⟩) NB168_175.out _).trans (((zar (p := ⟨gb175, _, none⟩) NB168_175.out _).trans (((zar (p := ⟨gb175, _, none⟩) NB168_175.out _).trans (((zar (p := ⟨gb175, _, none⟩) NB168_175.out _).trans (hHeld.2.2.2.2.2.2.1)))))))))))))))), ((zar (p := ⟨gb175, _, none⟩) NB168_175.out _).trans (((zar (p := ⟨gb175, _, none⟩) NB168_175.out _).trans (((zar (p := ⟨gb175, _, none⟩) NB168_175.out _).trans (((zar (p := ⟨gb175, _, none⟩) NB168_175.out _).trans (((zar (p := ⟨gb175, _, none⟩) NB168_175.out _).trans (((zar (p := ⟨gb175, _, none⟩) NB168_175.out _).trans (((zar (p := ⟨gb175, _, none⟩) NB168_175.out _).trans (((zar (p := ⟨gb175, _, none⟩) NB168_175.out _).trans (hHeld.2.2.2.2.2.2.2))))))))))))))))⟩ (fun hHeld => ?_)
        clear hK K
        refine done_ (done_of HT_.out (by kernel_rfl)) ?_
        try go_wp2
        have n0_ : Aside0 (Kd.S k57 57 ((((((((w16.setCell ⟨gb175, 0, none⟩ (.int .i64 ((zaf l0 x4_1).f3.f0))).setCell ⟨gb175, 1, none⟩ (.string ((zaf l0 x4_1).f3.f1))).setCell ⟨gb175, 2, none⟩ (.string ((zaf l0 x4_1).f3.f2))).setCell ⟨gb175, 3, none⟩ (.string ((zaf l0 x4_1).f3.f3))).setCell ⟨gb175, 4, none⟩ (.slice Ao18 y169.length co18)).setCell ⟨gb175, 5, none⟩ (.int .i64 ((zaf l0 x4_1).f3.f5))).setCell ⟨gb175, 6, none⟩ (.int .i64 ((zaf l0 x4_1).f3.f6))).setCell ⟨gb175, 7, none⟩ (.slice Ao17 y172.length co17)) w.heap.size (fun k_ => some k_ ≠ (.slice Ao18 y169.length co18 : Value).ownBlock ∧ some k_ ≠ (.slice Ao17 y172.length co17 : Value).ownBlock) u3 x3_1) := ⟨by (with_reducible repeat (first | apply Kd.S_alloc | apply Kd.S_drewN | apply Kd.S_drew)); exact Kd.S_mono (Kd.S_far (p := ⟨gb175, 7, none⟩) (Kd.S_far (p := ⟨gb175, 6, none⟩) (Kd.S_far (p := ⟨gb175, 5, none⟩) (Kd.S_far (p := ⟨gb175, 4, none⟩) (Kd.S_far (p := ⟨gb175, 3, none⟩) (Kd.S_far (p := ⟨gb175, 2, none⟩) (Kd.S_far (p := ⟨gb175, 1, none⟩) (Kd.S_far (p := ⟨gb175, 0, none⟩) (Kd.S_types HO_3.out BK175.out (by decide)) (fun _ hk => hk.2) (.int .i64 ((zaf l0 x4_1).f3.f0))) (fun _ hk => hk.2) (.string ((zaf l0 x4_1).f3.f1))) (fun _ hk => hk.2) (.string ((zaf l0 x4_1).f3.f2))) (fun _ hk => hk.2) (.string ((zaf l0 x4_1).f3.f3))) (fun _ hk => hk.2) (.slice Ao18 y169.length co18)) (fun _ hk => hk.2) (.int .i64 ((zaf l0 x4_1).f3.f5))) (fun _ hk => hk.2) (.int .i64 ((zaf l0 x4_1).f3.f6))) (fun _ hk => hk.2) (.slice Ao17 y172.length co17)) (fun _ hk => ⟨hk.1.1, hk.1.2⟩)⟩
        have n1_ : Aside0 (Kd.R k38 38 ((((((((w16.setCell ⟨gb175, 0, none⟩ (.int .i64 ((zaf l0 x4_1).f3.f0))).setCell ⟨gb175, 1, none⟩ (.string ((zaf l0 x4_1).f3.f1))).setCell ⟨gb175, 2, none⟩ (.string ((zaf l0 x4_1).f3.f2))).setCell ⟨gb175, 3, none⟩ (.string ((zaf l0 x4_1).f3.f3))).setCell ⟨gb175, 4, none⟩ (.slice Ao18 y169.length co18)).setCell ⟨gb175, 5, none⟩ (.int .i64 ((zaf l0 x4_1).f3.f5))).setCell ⟨gb175, 6, none⟩ (.int .i64 ((zaf l0 x4_1).f3.f6))).setCell ⟨gb175, 7, none⟩ (.slice Ao17 y172.length co17)) w.heap.size (fun _ => True) (.slice Ao18 y169.length co18) y169) := ⟨by (with_reducible repeat (first | apply Kd.R_alloc | apply Kd.R_drewN | apply Kd.R_drew)); exact Kd.R_mono (Kd.R_far (p := ⟨gb175, 7, none⟩) (Kd.R_far (p := ⟨gb175, 6, none⟩) (Kd.R_far (p := ⟨gb175, 5, none⟩) (Kd.R_far (p := ⟨gb175, 4, none⟩) (Kd.R_far (p := ⟨gb175, 3, none⟩) (Kd.R_far (p := ⟨gb175, 2, none⟩) (Kd.R_far (p := ⟨gb175, 1, none⟩) (Kd.R_far (p := ⟨gb175, 0, none⟩) (Kd.R_types HO171.out BK175.out (by decide)) (fun _ hk => hk.2) (.int .i64 ((zaf l0 x4_1).f3.f0))) (fun _ hk => hk.2) (.string ((zaf l0 x4_1).f3.f1))) (fun _ hk => hk.2) (.string ((zaf l0 x4_1).f3.f2))) (fun _ hk => hk.2) (.string ((zaf l0 x4_1).f3.f3))) (fun _ hk => hk.2) (.slice Ao18 y169.length co18)) (fun _ hk => hk.2) (.int .i64 ((zaf l0 x4_1).f3.f5))) (fun _ hk => hk.2) (.int .i64 ((zaf l0 x4_1).f3.f6))) (fun _ hk => hk.2) (.slice Ao17 y172.length co17)) (fun _ hk => trivial)⟩
        have n2_ : Aside0 (Kd.R (Kd.int .i64) 3 ((((((((w16.setCell ⟨gb175, 0, none⟩ (.int .i64 ((zaf l0 x4_1).f3.f0))).setCell ⟨gb175, 1, none⟩ (.string ((zaf l0 x4_1).f3.f1))).setCell ⟨gb175, 2, none⟩ (.string ((zaf l0 x4_1).f3.f2))).setCell ⟨gb175, 3, none⟩ (.string ((zaf l0 x4_1).f3.f3))).setCell ⟨gb175, 4, none⟩ (.slice Ao18 y169.length co18)).setCell ⟨gb175, 5, none⟩ (.int .i64 ((zaf l0 x4_1).f3.f5))).setCell ⟨gb175, 6, none⟩ (.int .i64 ((zaf l0 x4_1).f3.f6))).setCell ⟨gb175, 7, none⟩ (.slice Ao17 y172.length co17)) w.heap.size (fun _ => True) (.slice Ao17 y172.length co17) y172) := ⟨by (with_reducible repeat (first | apply Kd.R_alloc | apply Kd.R_drewN | apply Kd.R_drew)); exact Kd.R_mono (Kd.R_far (p := ⟨gb175, 7, none⟩) (Kd.R_far (p := ⟨gb175, 6, none⟩) (Kd.R_far (p := ⟨gb175, 5, none⟩) (Kd.R_far (p := ⟨gb175, 4, none⟩) (Kd.R_far (p := ⟨gb175, 3, none⟩) (Kd.R_far (p := ⟨gb175, 2, none⟩) (Kd.R_far (p := ⟨gb175, 1, none⟩) (Kd.R_far (p := ⟨gb175, 0, none⟩) (Kd.R_types HO174.out BK175.out (by decide)) (fun _ hk => hk.2) (.int .i64 ((zaf l0 x4_1).f3.f0))) (fun _ hk => hk.2) (.string ((zaf l0 x4_1).f3.f1))) (fun _ hk => hk.2) (.string ((zaf l0 x4_1).f3.f2))) (fun _ hk => hk.2) (.string ((zaf l0 x4_1).f3.f3))) (fun _ hk => hk.2) (.slice Ao18 y169.length co18)) (fun _ hk => hk.2) (.int .i64 ((zaf l0 x4_1).f3.f5))) (fun _ hk => hk.2) (.int .i64 ((zaf l0 x4_1).f3.f6))) (fun _ hk => hk.2) (.slice Ao17 y172.length co17)) (fun _ hk => trivial)⟩
        have n3_ : Aside0 (((((((((w16.setCell ⟨gb175, 0, none⟩ (.int .i64 ((zaf l0 x4_1).f3.f0))).setCell ⟨gb175, 1, none⟩ (.string ((zaf l0 x4_1).f3.f1))).setCell ⟨gb175, 2, none⟩ (.string ((zaf l0 x4_1).f3.f2))).setCell ⟨gb175, 3, none⟩ (.string ((zaf l0 x4_1).f3.f3))).setCell ⟨gb175, 4, none⟩ (.slice Ao18 y169.length co18)).setCell ⟨gb175, 5, none⟩ (.int .i64 ((zaf l0 x4_1).f3.f5))).setCell ⟨gb175, 6, none⟩ (.int .i64 ((zaf l0 x4_1).f3.f6))).setCell ⟨gb175, 7, none⟩ (.slice Ao17 y172.length co17)).heap[gb168]? = some (.cells #[.int .i64 ((zaf l0 x4_1).f3.f0), .string ((zaf l0 x4_1).f3.f1), .string ((zaf l0 x4_1).f3.f2), .string ((zaf l0 x4_1).f3.f3), .slice A167_7 ((zaf l0 x4_1).f3.f4).length c167_7, .int .i64 ((zaf l0 x4_1).f3.f5), .int .i64 ((zaf l0 x4_1).f3.f6), .slice A167_10 ((zaf l0 x4_1).f3.f7).length c167_10] 34 (0, 0))) := ⟨by (with_reducible repeat (first | refine zah ?_ _ | refine zai ?_ | refine zag ?_ _)); refine blk_far ?_ NB168_175.out _; (with_reducible repeat (first | refine zah ?_ _ | refine zai ?_ | refine zag ?_ _)); refine blk_far ?_ NB168_175.out _; (with_reducible repeat (first | refine zah ?_ _ | refine zai ?_ | refine zag ?_ _)); refine blk_far ?_ NB168_175.out _; (with_reducible repeat (first | refine zah ?_ _ | refine zai ?_ | refine zag ?_ _)); refine blk_far ?_ NB168_175.out _; (with_reducible repeat (first | refine zah ?_ _ | refine zai ?_ | refine zag ?_ _)); refine blk_far ?_ NB168_175.out _; (with_reducible repeat (first | refine zah ?_ _ | refine zai ?_ | refine zag ?_ _)); refine blk_far ?_ NB168_175.out _; (with_reducible repeat (first | refine zah ?_ _ | refine zai ?_ | refine zag ?_ _)); refine blk_far ?_ NB168_175.out _; (with_reducible repeat (first | refine zah ?_ _ | refine zai ?_ | refine zag ?_ _)); refine blk_far ?_ NB168_175.out _; (with_reducible repeat (first | refine zah ?_ _ | refine zai ?_ | refine zag ?_ _)); exact BK168.out⟩
        have n4_ : Aside0 (((((((((w16.setCell ⟨gb175, 0, none⟩ (.int .i64 ((zaf l0 x4_1).f3.f0))).setCell ⟨gb175, 1, none⟩ (.string ((zaf l0 x4_1).f3.f1))).setCell ⟨gb175, 2, none⟩ (.string ((zaf l0 x4_1).f3.f2))).setCell ⟨gb175, 3, none⟩ (.string ((zaf l0 x4_1).f3.f3))).setCell ⟨gb175, 4, none⟩ (.slice Ao18 y169.length co18)).setCell ⟨gb175, 5, none⟩ (.int .i64 ((zaf l0 x4_1).f3.f5))).setCell ⟨gb175, 6, none⟩ (.int .i64 ((zaf l0 x4_1).f3.f6))).setCell ⟨gb175, 7, none⟩ (.slice Ao17 y172.length co17)).heap[gb175]? = some (.cells #[.int .i64 ((zaf l0 x4_1).f3.f0), .string ((zaf l0 x4_1).f3.f1), .string ((zaf l0 x4_1).f3.f2), .string ((zaf l0 x4_1).f3.f3), .slice Ao18 y169.length co18, .int .i64 ((zaf l0 x4_1).f3.f5), .int .i64 ((zaf l0 x4_1).f3.f6), .slice Ao17 y172.length co17] 55 (0, 0))) := ⟨by (with_reducible repeat (first | refine zah ?_ _ | refine zai ?_ | refine zag ?_ _)); refine zao (cs := #[.int .i64 ((zaf l0 x4_1).f3.f0), .string ((zaf l0 x4_1).f3.f1), .string ((zaf l0 x4_1).f3.f2), .string ((zaf l0 x4_1).f3.f3), .slice Ao18 y169.length co18, .int .i64 ((zaf l0 x4_1).f3.f5), .int .i64 ((zaf l0 x4_1).f3.f6), .slice none 0 0]) ?_ 7 _ rfl; (with_reducible repeat (first | refine zah ?_ _ | refine zai ?_ | refine zag ?_ _)); refine zao (cs := #[.int .i64 ((zaf l0 x4_1).f3.f0), .string ((zaf l0 x4_1).f3.f1), .string ((zaf l0 x4_1).f3.f2), .string ((zaf l0 x4_1).f3.f3), .slice Ao18 y169.length co18, .int .i64 ((zaf l0 x4_1).f3.f5), .int .i64 0, .slice none 0 0]) ?_ 6 _ rfl; (with_reducible repeat (first | refine zah ?_ _ | refine zai ?_ | refine zag ?_ _)); refine zao (cs := #[.int .i64 ((zaf l0 x4_1).f3.f0), .string ((zaf l0 x4_1).f3.f1), .string ((zaf l0 x4_1).f3.f2), .string ((zaf l0 x4_1).f3.f3), .slice Ao18 y169.length co18, .int .i64 0, .int .i64 0, .slice none 0 0]) ?_ 5 _ rfl; (with_reducible repeat (first | refine zah ?_ _ | refine zai ?_ | refine zag ?_ _)); refine zao (cs := #[.int .i64 ((zaf l0 x4_1).f3.f0), .string ((zaf l0 x4_1).f3.f1), .string ((zaf l0 x4_1).f3.f2), .string ((zaf l0 x4_1).f3.f3), .slice none 0 0, .int .i64 0, .int .i64 0, .slice none 0 0]) ?_ 4 _ rfl; (with_reducible repeat (first | refine zah ?_ _ | refine zai ?_ | refine zag ?_ _)); refine zao (cs := #[.int .i64 ((zaf l0 x4_1).f3.f0), .string ((zaf l0 x4_1).f3.f1), .string ((zaf l0 x4_1).f3.f2), .string (⟨#[]⟩ : ByteArray), .slice none 0 0, .int .i64 0, .int .i64 0, .slice none 0 0]) ?_ 3 _ rfl; (with_reducible repeat (first | refine zah ?_ _ | refine zai ?_ | refine zag ?_ _)); refine zao (cs := #[.int .i64 ((zaf l0 x4_1).f3.f0), .string ((zaf l0 x4_1).f3.f1), .string (⟨#[]⟩ : ByteArray), .string (⟨#[]⟩ : ByteArray), .slice none 0 0, .int .i64 0, .int .i64 0, .slice none 0 0]) ?_ 2 _ rfl; (with_reducible repeat (first | refine zah ?_ _ | refine zai ?_ | refine zag ?_ _)); refine zao (cs := #[.int .i64 ((zaf l0 x4_1).f3.f0), .string (⟨#[]⟩ : ByteArray), .string (⟨#[]⟩ : ByteArray), .string (⟨#[]⟩ : ByteArray), .slice none 0 0, .int .i64 0, .int .i64 0, .slice none 0 0]) ?_ 1 _ rfl; (with_reducible repeat (first | refine zah ?_ _ | refine zai ?_ | refine zag ?_ _)); refine zao (cs := #[.int .i64 0, .string (⟨#[]⟩ : ByteArray), .string (⟨#[]⟩ : ByteArray), .string (⟨#[]⟩ : ByteArray), .slice none 0 0, .int .i64 0, .int .i64 0, .slice none 0 0]) ?_ 0 _ rfl; (with_reducible repeat (first | refine zah ?_ _ | refine zai ?_ | refine zag ?_ _)); exact BK175.out⟩
        have n5_ : Aside0 (Below w.heap.size w ((((((((w16.setCell ⟨gb175, 0, none⟩ (.int .i64 ((zaf l0 x4_1).f3.f0))).setCell ⟨gb175, 1, none⟩ (.string ((zaf l0 x4_1).f3.f1))).setCell ⟨gb175, 2, none⟩ (.string ((zaf l0 x4_1).f3.f2))).setCell ⟨gb175, 3, none⟩ (.string ((zaf l0 x4_1).f3.f3))).setCell ⟨gb175, 4, none⟩ (.slice Ao18 y169.length co18)).setCell ⟨gb175, 5, none⟩ (.int .i64 ((zaf l0 x4_1).f3.f5))).setCell ⟨gb175, 6, none⟩ (.int .i64 ((zaf l0 x4_1).f3.f6))).setCell ⟨gb175, 7, none⟩ (.slice Ao17 y172.length co17))) := ⟨by repeat (first | (with_reducible first | exact HB.out | apply zad | apply zab | apply zac | refine zak ?_ GE168.out | refine zak ?_ GE175.out) | exact HB.out)⟩
        (try clear HO_3)
        (try clear HO171)
        (try clear HO174)
        (try clear BK168)
        (try clear BK175)
        (try clear HB)
        generalize ((((((((w16.setCell ⟨gb175, 0, none⟩ (.int .i64 ((zaf l0 x4_1).f3.f0))).setCell ⟨gb175, 1, none⟩ (.string ((zaf l0 x4_1).f3.f1))).setCell ⟨gb175, 2, none⟩ (.string ((zaf l0 x4_1).f3.f2))).setCell ⟨gb175, 3, none⟩ (.string ((zaf l0 x4_1).f3.f3))).setCell ⟨gb175, 4, none⟩ (.slice Ao18 y169.length co18)).setCell ⟨gb175, 5, none⟩ (.int .i64 ((zaf l0 x4_1).f3.f5))).setCell ⟨gb175, 6, none⟩ (.int .i64 ((zaf l0 x4_1).f3.f6))).setCell ⟨gb175, 7, none⟩ (.slice Ao17 y172.length co17)) = w27 at n0_ n1_ n2_ n3_ n4_ n5_ ⊢
        have HO_3 := n0_
        have HO171 := n1_
        have HO174 := n2_
        have BK168 := n3_
        have BK175 := n4_
        have HB := n5_
        clear n0_ n1_ n2_ n3_ n4_ n5_
        have n0_ := Aside0.mk (Kd.S_drew HO_3.out)
        have n1_ := Aside0.mk (Kd.R_drew HO171.out)
        have n2_ := Aside0.mk (Kd.R_drew HO174.out)
        have n3_ := Aside0.mk (zai BK168.out)
        have n4_ := Aside0.mk (zai BK175.out)
        have n5_ := Aside0.mk (zac HB.out)
        clear HO_3
        clear HO171
        clear HO174
        clear BK168
        clear BK175
        clear HB
        have HO_3 := n0_
        have HO171 := n1_
        have HO174 := n2_
        have BK168 := n3_
        have BK175 := n4_
        have HB := n5_
        clear n0_ n1_ n2_ n3_ n4_ n5_
        have p176 : 0 ≤ (x4_1 : Int) := of_decide_eq_true (by first | (with_reducible assumption) | assumption)
        have q176 : x4_1 < (l0.length : Int) := of_decide_eq_true (by first | (with_reducible assumption) | assumption)
        obtain ⟨ad176, A176_7, c176_7, A176_10, c176_10, e176, hx176_0, hx176_1, hx176_2, hx176_3, hx176_4, hx176_5, hx176_6, hx176_7, hx176_8, hx176_9, hx176_10, hx176_11, hl176_7, hi176_7, hl176_10, hi176_10⟩ := at_T36 HR0.out x4_1 p176 q176
        have hw176_11 := hx176_11
        have hw176_10 := hx176_10
        have hw176_9 := hx176_9
        have hw176_8 := hx176_8
        have hw176_7 := hx176_7
        have hw176_6 := hx176_6
        have hw176_5 := hx176_5
        have hw176_4 := hx176_4
        have hw176_3 := hx176_3
        have hw176_2 := hx176_2
        have hw176_1 := hx176_1
        have hw176_0 := hx176_0
        obtain rfl : ad167 = ad176 := (by injection e176)
        replace hx176_0 := (HB.out.cell (World.block_lt_of_cell? w _ hx176_0)).trans hx176_0
        replace hx176_1 := (HB.out.cell (World.block_lt_of_cell? w _ hx176_1)).trans hx176_1
        replace hx176_2 := (HB.out.cell (World.block_lt_of_cell? w _ hx176_2)).trans hx176_2
        replace hx176_3 := (HB.out.cell (World.block_lt_of_cell? w _ hx176_3)).trans hx176_3
        replace hx176_4 := (HB.out.cell (World.block_lt_of_cell? w _ hx176_4)).trans hx176_4
        replace hx176_5 := (HB.out.cell (World.block_lt_of_cell? w _ hx176_5)).trans hx176_5
        replace hx176_6 := (HB.out.cell (World.block_lt_of_cell? w _ hx176_6)).trans hx176_6
        replace hx176_7 := (HB.out.cell (World.block_lt_of_cell? w _ hx176_7)).trans hx176_7
        replace hx176_8 := (HB.out.cell (World.block_lt_of_cell? w _ hx176_8)).trans hx176_8
        replace hx176_9 := (HB.out.cell (World.block_lt_of_cell? w _ hx176_9)).trans hx176_9
        replace hx176_10 := (HB.out.cell (World.block_lt_of_cell? w _ hx176_10)).trans hx176_10
        replace hx176_11 := (HB.out.cell (World.block_lt_of_cell? w _ hx176_11)).trans hx176_11
        have HR176_7 := Aside0.mk hi176_7
        have HC176_7 := Aside0.mk hl176_7
        clear hi176_7 hl176_7
        have HR176_10 := Aside0.mk hi176_10
        have HC176_10 := Aside0.mk hl176_10
        clear hi176_10 hl176_10
        replace p176 := eq_true p176
        replace q176 := eq_true q176
        have p177 : 0 ≤ (x4_1 : Int) := of_decide_eq_true (by first | (with_reducible assumption) | assumption)
        have q177 : x4_1 < (l0.length : Int) := of_decide_eq_true (by first | (with_reducible assumption) | assumption)
        obtain ⟨ad177, A177_7, c177_7, A177_10, c177_10, e177, hx177_0, hx177_1, hx177_2, hx177_3, hx177_4, hx177_5, hx177_6, hx177_7, hx177_8, hx177_9, hx177_10, hx177_11, hl177_7, hi177_7, hl177_10, hi177_10⟩ := at_T36 HR0.out x4_1 p177 q177
        have hw177_11 := hx177_11
        have hw177_10 := hx177_10
        have hw177_9 := hx177_9
        have hw177_8 := hx177_8
        have hw177_7 := hx177_7
        have hw177_6 := hx177_6
        have hw177_5 := hx177_5
        have hw177_4 := hx177_4
        have hw177_3 := hx177_3
        have hw177_2 := hx177_2
        have hw177_1 := hx177_1
        have hw177_0 := hx177_0
        obtain rfl : ad167 = ad177 := (by injection e177)
        replace hx177_0 := (HB.out.cell (World.block_lt_of_cell? w _ hx177_0)).trans hx177_0
        replace hx177_1 := (HB.out.cell (World.block_lt_of_cell? w _ hx177_1)).trans hx177_1
        replace hx177_2 := (HB.out.cell (World.block_lt_of_cell? w _ hx177_2)).trans hx177_2
        replace hx177_3 := (HB.out.cell (World.block_lt_of_cell? w _ hx177_3)).trans hx177_3
        replace hx177_4 := (HB.out.cell (World.block_lt_of_cell? w _ hx177_4)).trans hx177_4
        replace hx177_5 := (HB.out.cell (World.block_lt_of_cell? w _ hx177_5)).trans hx177_5
        replace hx177_6 := (HB.out.cell (World.block_lt_of_cell? w _ hx177_6)).trans hx177_6
        replace hx177_7 := (HB.out.cell (World.block_lt_of_cell? w _ hx177_7)).trans hx177_7
        replace hx177_8 := (HB.out.cell (World.block_lt_of_cell? w _ hx177_8)).trans hx177_8
        replace hx177_9 := (HB.out.cell (World.block_lt_of_cell? w _ hx177_9)).trans hx177_9
        replace hx177_10 := (HB.out.cell (World.block_lt_of_cell? w _ hx177_10)).trans hx177_10
        replace hx177_11 := (HB.out.cell (World.block_lt_of_cell? w _ hx177_11)).trans hx177_11
        have HR177_7 := Aside0.mk hi177_7
        have HC177_7 := Aside0.mk hl177_7
        clear hi177_7 hl177_7
        have HR177_10 := Aside0.mk hi177_10
        have HC177_10 := Aside0.mk hl177_10
        clear hi177_10 hl177_10
        replace p177 := eq_true p177
        replace q177 := eq_true q177
        have ea_ := Option.some.inj (hx176_7.symm.trans hx177_7)
        injection ea_ with ea_ en_ ec_
        subst ea_
        subst ec_
        clear en_
        have ea_ := Option.some.inj (hx176_10.symm.trans hx177_10)
        injection ea_ with ea_ en_ ec_
        subst ea_
        subst ec_
        clear en_
        have p178 : 0 ≤ (x4_1 : Int) := of_decide_eq_true (by first | (with_reducible assumption) | assumption)
        have q178 : x4_1 < (l0.length : Int) := of_decide_eq_true (by first | (with_reducible assumption) | assumption)
        obtain ⟨ad178, A178_7, c178_7, A178_10, c178_10, e178, hx178_0, hx178_1, hx178_2, hx178_3, hx178_4, hx178_5, hx178_6, hx178_7, hx178_8, hx178_9, hx178_10, hx178_11, hl178_7, hi178_7, hl178_10, hi178_10⟩ := at_T36 HR0.out x4_1 p178 q178
        have hw178_11 := hx178_11
        have hw178_10 := hx178_10
        have hw178_9 := hx178_9
        have hw178_8 := hx178_8
        have hw178_7 := hx178_7
        have hw178_6 := hx178_6
        have hw178_5 := hx178_5
        have hw178_4 := hx178_4
        have hw178_3 := hx178_3
        have hw178_2 := hx178_2
        have hw178_1 := hx178_1
        have hw178_0 := hx178_0
        obtain rfl : ad167 = ad178 := (by injection e178)
        replace hx178_0 := (HB.out.cell (World.block_lt_of_cell? w _ hx178_0)).trans hx178_0
        replace hx178_1 := (HB.out.cell (World.block_lt_of_cell? w _ hx178_1)).trans hx178_1
        replace hx178_2 := (HB.out.cell (World.block_lt_of_cell? w _ hx178_2)).trans hx178_2
        replace hx178_3 := (HB.out.cell (World.block_lt_of_cell? w _ hx178_3)).trans hx178_3
        replace hx178_4 := (HB.out.cell (World.block_lt_of_cell? w _ hx178_4)).trans hx178_4
        replace hx178_5 := (HB.out.cell (World.block_lt_of_cell? w _ hx178_5)).trans hx178_5
        replace hx178_6 := (HB.out.cell (World.block_lt_of_cell? w _ hx178_6)).trans hx178_6
        replace hx178_7 := (HB.out.cell (World.block_lt_of_cell? w _ hx178_7)).trans hx178_7
        replace hx178_8 := (HB.out.cell (World.block_lt_of_cell? w _ hx178_8)).trans hx178_8
        replace hx178_9 := (HB.out.cell (World.block_lt_of_cell? w _ hx178_9)).trans hx178_9
        replace hx178_10 := (HB.out.cell (World.block_lt_of_cell? w _ hx178_10)).trans hx178_10
        replace hx178_11 := (HB.out.cell (World.block_lt_of_cell? w _ hx178_11)).trans hx178_11
        have HR178_7 := Aside0.mk hi178_7
        have HC178_7 := Aside0.mk hl178_7
        clear hi178_7 hl178_7
        have HR178_10 := Aside0.mk hi178_10
        have HC178_10 := Aside0.mk hl178_10
        clear hi178_10 hl178_10
        replace p178 := eq_true p178
        replace q178 := eq_true q178
        have ea_ := Option.some.inj (hx176_7.symm.trans hx178_7)
        injection ea_ with ea_ en_ ec_
        subst ea_
        subst ec_
        clear en_
        have ea_ := Option.some.inj (hx176_10.symm.trans hx178_10)
        injection ea_ with ea_ en_ ec_
        subst ea_
        subst ec_
        clear en_
        have p179 : 0 ≤ (x4_1 : Int) := of_decide_eq_true (by first | (with_reducible assumption) | assumption)
        have q179 : x4_1 < (l0.length : Int) := of_decide_eq_true (by first | (with_reducible assumption) | assumption)
        obtain ⟨ad179, A179_7, c179_7, A179_10, c179_10, e179, hx179_0, hx179_1, hx179_2, hx179_3, hx179_4, hx179_5, hx179_6, hx179_7, hx179_8, hx179_9, hx179_10, hx179_11, hl179_7, hi179_7, hl179_10, hi179_10⟩ := at_T36 HR0.out x4_1 p179 q179
        have hw179_11 := hx179_11
        have hw179_10 := hx179_10
        have hw179_9 := hx179_9
        have hw179_8 := hx179_8
        have hw179_7 := hx179_7
        have hw179_6 := hx179_6
        have hw179_5 := hx179_5
        have hw179_4 := hx179_4
        have hw179_3 := hx179_3
        have hw179_2 := hx179_2
        have hw179_1 := hx179_1
        have hw179_0 := hx179_0
        obtain rfl : ad167 = ad179 := (by injection e179)
        replace hx179_0 := (HB.out.cell (World.block_lt_of_cell? w _ hx179_0)).trans hx179_0
        replace hx179_1 := (HB.out.cell (World.block_lt_of_cell? w _ hx179_1)).trans hx179_1
        replace hx179_2 := (HB.out.cell (World.block_lt_of_cell? w _ hx179_2)).trans hx179_2
        replace hx179_3 := (HB.out.cell (World.block_lt_of_cell? w _ hx179_3)).trans hx179_3
        replace hx179_4 := (HB.out.cell (World.block_lt_of_cell? w _ hx179_4)).trans hx179_4
        replace hx179_5 := (HB.out.cell (World.block_lt_of_cell? w _ hx179_5)).trans hx179_5
        replace hx179_6 := (HB.out.cell (World.block_lt_of_cell? w _ hx179_6)).trans hx179_6
        replace hx179_7 := (HB.out.cell (World.block_lt_of_cell? w _ hx179_7)).trans hx179_7
        replace hx179_8 := (HB.out.cell (World.block_lt_of_cell? w _ hx179_8)).trans hx179_8
        replace hx179_9 := (HB.out.cell (World.block_lt_of_cell? w _ hx179_9)).trans hx179_9
        replace hx179_10 := (HB.out.cell (World.block_lt_of_cell? w _ hx179_10)).trans hx179_10
        replace hx179_11 := (HB.out.cell (World.block_lt_of_cell? w _ hx179_11)).trans hx179_11
        have HR179_7 := Aside0.mk hi179_7
        have HC179_7 := Aside0.mk hl179_7
        clear hi179_7 hl179_7
        have HR179_10 := Aside0.mk hi179_10
        have HC179_10 := Aside0.mk hl179_10
        clear hi179_10 hl179_10
        replace p179 := eq_true p179
        replace q179 := eq_true q179
        have ea_ := Option.some.inj (hx176_7.symm.trans hx179_7)
        injection ea_ with ea_ en_ ec_
        subst ea_
        subst ec_
        clear en_
        have ea_ := Option.some.inj (hx176_10.symm.trans hx179_10)
        injection ea_ with ea_ en_ ec_
        subst ea_
        subst ec_
        clear en_
        refine start_ (n := 26) (S := fun w' => w'.cell? ⟨gb175, 0, none⟩ = some (.int .i64 ((zaf l0 x4_1).f3.f0)) ∧ w'.cell? ⟨gb175, 1, none⟩ = some (.string ((zaf l0 x4_1).f3.f1)) ∧ w'.cell? ⟨gb175, 2, none⟩ = some (.string ((zaf l0 x4_1).f3.f2)) ∧ w'.cell? ⟨gb175, 3, none⟩ = some (.string ((zaf l0 x4_1).f3.f3)) ∧ w'.cell? ⟨gb175, 4, none⟩ = some (.slice Ao18 y169.length co18) ∧ w'.cell? ⟨gb175, 5, none⟩ = some (.int .i64 ((zaf l0 x4_1).f3.f5)) ∧ w'.cell? ⟨gb175, 6, none⟩ = some (.int .i64 ((zaf l0 x4_1).f3.f6)) ∧ w'.cell? ⟨gb175, 7, none⟩ = some (.slice Ao17 y172.length co17) ∧ w'.cell? (ad167.add ((x4_1).toNat * 12)) = some (.int .i64 ((zaf l0 x4_1).f0)) ∧ w'.cell? ⟨(ad167.add ((x4_1).toNat * 12)).block, (ad167.add ((x4_1).toNat * 12)).off + 1, none⟩ = some (.int .i64 ((zaf l0 x4_1).f1)) ∧ w'.cell? ⟨(ad167.add ((x4_1).toNat * 12)).block, (ad167.add ((x4_1).toNat * 12)).off + 2, none⟩ = some (.int .i64 ((zaf l0 x4_1).f2)) ∧ w'.cell? ⟨(ad167.add ((x4_1).toNat * 12)).block, (ad167.add ((x4_1).toNat * 12)).off + 3, none⟩ = some (.int .i64 ((zaf l0 x4_1).f3.f0)) ∧ w'.cell? ⟨(ad167.add ((x4_1).toNat * 12)).block, (ad167.add ((x4_1).toNat * 12)).off + 4, none⟩ = some (.string ((zaf l0 x4_1).f3.f1)) ∧ w'.cell? ⟨(ad167.add ((x4_1).toNat * 12)).block, (ad167.add ((x4_1).toNat * 12)).off + 5, none⟩ = some (.string ((zaf l0 x4_1).f3.f2)) ∧ w'.cell? ⟨(ad167.add ((x4_1).toNat * 12)).block, (ad167.add ((x4_1).toNat * 12)).off + 6, none⟩ = some (.string ((zaf l0 x4_1).f3.f3)) ∧ w'.cell? ⟨(ad167.add ((x4_1).toNat * 12)).block, (ad167.add ((x4_1).toNat * 12)).off + 7, none⟩ = some (.slice A176_7 ((zaf l0 x4_1).f3.f4).length c176_7) ∧ w'.cell? ⟨(ad167.add ((x4_1).toNat * 12)).block, (ad167.add ((x4_1).toNat * 12)).off + 8, none⟩ = some (.int .i64 ((zaf l0 x4_1).f3.f5)) ∧ w'.cell? ⟨(ad167.add ((x4_1).toNat * 12)).block, (ad167.add ((x4_1).toNat * 12)).off + 9, none⟩ = some (.int .i64 ((zaf l0 x4_1).f3.f6)) ∧ w'.cell? ⟨(ad167.add ((x4_1).toNat * 12)).block, (ad167.add ((x4_1).toNat * 12)).off + 10, none⟩ = some (.slice A176_10 ((zaf l0 x4_1).f3.f7).length c176_10) ∧ w'.cell? ⟨(ad167.add ((x4_1).toNat * 12)).block, (ad167.add ((x4_1).toNat * 12)).off + 11, none⟩ = some (.string ((zaf l0 x4_1).f4)) ∧ w'.cell? (ad167.add ((x4_1).toNat * 12)) = some (.int .i64 ((zaf l0 x4_1).f0)) ∧ w'.cell? ⟨(ad167.add ((x4_1).toNat * 12)).block, (ad167.add ((x4_1).toNat * 12)).off + 1, none⟩ = some (.int .i64 ((zaf l0 x4_1).f1)) ∧ w'.cell? ⟨(ad167.add ((x4_1).toNat * 12)).block, (ad167.add ((x4_1).toNat * 12)).off + 2, none⟩ = some (.int .i64 ((zaf l0 x4_1).f2)) ∧ w'.cell? ⟨(ad167.add ((x4_1).toNat * 12)).block, (ad167.add ((x4_1).toNat * 12)).off + 3, none⟩ = some (.int .i64 ((zaf l0 x4_1).f3.f0)) ∧ w'.cell? ⟨(ad167.add ((x4_1).toNat * 12)).block, (ad167.add ((x4_1).toNat * 12)).off + 4, none⟩ = some (.string ((zaf l0 x4_1).f3.f1)) ∧ w'.cell? ⟨(ad167.add ((x4_1).toNat * 12)).block, (ad167.add ((x4_1).toNat * 12)).off + 5, none⟩ = some (.string ((zaf l0 x4_1).f3.f2)) ∧ w'.cell? ⟨(ad167.add ((x4_1).toNat * 12)).block, (ad167.add ((x4_1).toNat * 12)).off + 6, none⟩ = some (.string ((zaf l0 x4_1).f3.f3)) ∧ w'.cell? ⟨(ad167.add ((x4_1).toNat * 12)).block, (ad167.add ((x4_1).toNat * 12)).off + 7, none⟩ = some (.slice A176_7 ((zaf l0 x4_1).f3.f4).length c176_7) ∧ w'.cell? ⟨(ad167.add ((x4_1).toNat * 12)).block, (ad167.add ((x4_1).toNat * 12)).off + 8, none⟩ = some (.int .i64 ((zaf l0 x4_1).f3.f5)) ∧ w'.cell? ⟨(ad167.add ((x4_1).toNat * 12)).block, (ad167.add ((x4_1).toNat * 12)).off + 9, none⟩ = some (.int .i64 ((zaf l0 x4_1).f3.f6)) ∧ w'.cell? ⟨(ad167.add ((x4_1).toNat * 12)).block, (ad167.add ((x4_1).toNat * 12)).off + 10, none⟩ = some (.slice A176_10 ((zaf l0 x4_1).f3.f7).length c176_10) ∧ w'.cell? ⟨(ad167.add ((x4_1).toNat * 12)).block, (ad167.add ((x4_1).toNat * 12)).off + 11, none⟩ = some (.string ((zaf l0 x4_1).f4)) ∧ w'.cell? (ad167.add ((x4_1).toNat * 12)) = some (.int .i64 ((zaf l0 x4_1).f0)) ∧ w'.cell? ⟨(ad167.add ((x4_1).toNat * 12)).block, (ad167.add ((x4_1).toNat * 12)).off + 1, none⟩ = some (.int .i64 ((zaf l0 x4_1).f1)) ∧ w'.cell? ⟨(ad167.add ((x4_1).toNat * 12)).block, (ad167.add ((x4_1).toNat * 12)).off + 2, none⟩ = some (.int .i64 ((zaf l0 x4_1).f2)) ∧ w'.cell? ⟨(ad167.add ((x4_1).toNat * 12)).block, (ad167.add ((x4_1).toNat * 12)).off + 3, none⟩ = some (.int .i64 ((zaf l0 x4_1).f3.f0)) ∧ w'.cell? ⟨(ad167.add ((x4_1).toNat * 12)).block, (ad167.add ((x4_1).toNat * 12)).off + 4, none⟩ = some (.string ((zaf l0 x4_1).f3.f1)) ∧ w'.cell? ⟨(ad167.add ((x4_1).toNat * 12)).block, (ad167.add ((x4_1).toNat * 12)).off + 5, none⟩ = some (.string ((zaf l0 x4_1).f3.f2)) ∧ w'.cell? ⟨(ad167.add ((x4_1).toNat * 12)).block, (ad167.add ((x4_1).toNat * 12)).off + 6, none⟩ = some (.string ((zaf l0 x4_1).f3.f3)) ∧ w'.cell? ⟨(ad167.add ((x4_1).toNat * 12)).block, (ad167.add ((x4_1).toNat * 12)).off + 7, none⟩ = some (.slice A176_7 ((zaf l0 x4_1).f3.f4).length c176_7) ∧ w'.cell? ⟨(ad167.add ((x4_1).toNat * 12)).block, (ad167.add ((x4_1).toNat * 12)).off + 8, none⟩ = some (.int .i64 ((zaf l0 x4_1).f3.f5)) ∧ w'.cell? ⟨(ad167.add ((x4_1).toNat * 12)).block, (ad167.add ((x4_1).toNat * 12)).off + 9, none⟩ = some (.int .i64 ((zaf l0 x4_1).f3.f6)) ∧ w'.cell? ⟨(ad167.add ((x4_1).toNat * 12)).block, (ad167.add ((x4_1).toNat * 12)).off + 10, none⟩ = some (.slice A176_10 ((zaf l0 x4_1).f3.f7).length c176_10) ∧ w'.cell? ⟨(ad167.add ((x4_1).toNat * 12)).block, (ad167.add ((x4_1).toNat * 12)).off + 11, none⟩ = some (.string ((zaf l0 x4_1).f4)) ∧ w'.cell? (ad167.add ((x4_1).toNat * 12)) = some (.int .i64 ((zaf l0 x4_1).f0)) ∧ w'.cell? ⟨(ad167.add ((x4_1).toNat * 12)).block, (ad167.add ((x4_1).toNat * 12)).off + 1, none⟩ = some (.int .i64 ((zaf l0 x4_1).f1)) ∧ w'.cell? ⟨(ad167.add ((x4_1).toNat * 12)).block, (ad167.add ((x4_1).toNat * 12)).off + 2, none⟩ = some (.int .i64 ((zaf l0 x4_1).f2)) ∧ w'.cell? ⟨(ad167.add ((x4_1).toNat * 12)).block, (ad167.add ((x4_1).toNat * 12)).off + 3, none⟩ = some (.int .i64 ((zaf l0 x4_1).f3.f0)) ∧ w'.cell? ⟨(ad167.add ((x4_1).toNat * 12)).block, (ad167.add ((x4_1).toNat * 12)).off + 4, none⟩ = some (.string ((zaf l0 x4_1).f3.f1)) ∧ w'.cell? ⟨(ad167.add ((x4_1).toNat * 12)).block, (ad167.add ((x4_1).toNat * 12)).off + 5, none⟩ = some (.string ((zaf l0 x4_1).f3.f2)) ∧ w'.cell? ⟨(ad167.add ((x4_1).toNat * 12)).block, (ad167.add ((x4_1).toNat * 12)).off + 6, none⟩ = some (.string ((zaf l0 x4_1).f3.f3)) ∧ w'.cell? ⟨(ad167.add ((x4_1).toNat * 12)).block, (ad167.add ((x4_1).toNat * 12)).off + 7, none⟩ = some (.slice A176_7 ((zaf l0 x4_1).f3.f4).length c176_7) ∧ w'.cell? ⟨(ad167.add ((x4_1).toNat * 12)).block, (ad167.add ((x4_1).toNat * 12)).off + 8, none⟩ = some (.int .i64 ((zaf l0 x4_1).f3.f5)) ∧ w'.cell? ⟨(ad167.add ((x4_1).toNat * 12)).block, (ad167.add ((x4_1).toNat * 12)).off + 9, none⟩ = some (.int .i64 ((zaf l0 x4_1).f3.f6)) ∧ w'.cell? ⟨(ad167.add ((x4_1).toNat * 12)).block, (ad167.add ((x4_1).toNat * 12)).off + 10, none⟩ = some (.slice A176_10 ((zaf l0 x4_1).f3.f7).length c176_10) ∧ w'.cell? ⟨(ad167.add ((x4_1).toNat * 12)).block, (ad167.add ((x4_1).toNat * 12)).off + 11, none⟩ = some (.string ((zaf l0 x4_1).f4))) (ds := []) #[false, false, false, false, false, false, false, false, false, false, false, false, false, false, false, false, false, false, false, false, false, false, false, false, false, false] (by kernel_rfl) rfl rfl ⟨(zaa BK175.out 0).trans rfl, (zaa BK175.out 1).trans rfl, (zaa BK175.out 2).trans rfl, (zaa BK175.out 3).trans rfl, (zaa BK175.out 4).trans rfl, (zaa BK175.out 5).trans rfl, (zaa BK175.out 6).trans rfl, (zaa BK175.out 7).trans rfl, ((HB.out.cell (World.block_lt_of_cell? w _ hw176_0)).trans hw176_0), ((HB.out.cell (World.block_lt_of_cell? w _ hw176_1)).trans hw176_1), ((HB.out.cell (World.block_lt_of_cell? w _ hw176_2)).trans hw176_2), ((HB.out.cell (World.block_lt_of_cell? w _ hw176_3)).trans hw176_3), ((HB.out.cell (World.block_lt_of_cell? w _ hw176_4)).trans hw176_4), ((HB.out.cell (World.block_lt_of_cell? w _ hw176_5)).trans hw176_5), ((HB.out.cell (World.block_lt_of_cell? w _ hw176_6)).trans hw176_6), ((HB.out.cell (World.block_lt_of_cell? w _ hw176_7)).trans hw176_7), ((HB.out.cell (World.block_lt_of_cell? w _ hw176_8)).trans hw176_8), ((HB.out.cell (World.block_lt_of_cell? w _ hw176_9)).trans hw176_9), ((HB.out.cell (World.block_lt_of_cell? w _ hw176_10)).trans hw176_10), ((HB.out.cell (World.block_lt_of_cell? w _ hw176_11)).trans hw176_11), ((HB.out.cell (World.block_lt_of_cell? w _ hw177_0)).trans hw177_0), ((HB.out.cell (World.block_lt_of_cell? w _ hw177_1)).trans hw177_1), ((HB.out.cell (World.block_lt_of_cell? w _ hw177_2)).trans hw177_2), ((HB.out.cell (World.block_lt_of_cell? w _ hw177_3)).trans hw177_3), ((HB.out.cell (World.block_lt_of_cell? w _ hw177_4)).trans hw177_4), ((HB.out.cell (World.block_lt_of_cell? w _ hw177_5)).trans hw177_5), ((HB.out.cell (World.block_lt_of_cell? w _ hw177_6)).trans hw177_6), ((HB.out.cell (World.block_lt_of_cell? w _ hw177_7)).trans hw177_7), ((HB.out.cell (World.block_lt_of_cell? w _ hw177_8)).trans hw177_8), ((HB.out.cell (World.block_lt_of_cell? w _ hw177_9)).trans hw177_9), ((HB.out.cell (World.block_lt_of_cell? w _ hw177_10)).trans hw177_10), ((HB.out.cell (World.block_lt_of_cell? w _ hw177_11)).trans hw177_11), ((HB.out.cell (World.block_lt_of_cell? w _ hw178_0)).trans hw178_0), ((HB.out.cell (World.block_lt_of_cell? w _ hw178_1)).trans hw178_1), ((HB.out.cell (World.block_lt_of_cell? w _ hw178_2)).trans hw178_2), ((HB.out.cell (World.block_lt_of_cell? w _ hw178_3)).trans hw178_3), ((HB.out.cell (World.block_lt_of_cell? w _ hw178_4)).trans hw178_4), ((HB.out.cell (World.block_lt_of_cell? w _ hw178_5)).trans hw178_5), ((HB.out.cell (World.block_lt_of_cell? w _ hw178_6)).trans hw178_6), ((HB.out.cell (World.block_lt_of_cell? w _ hw178_7)).trans hw178_7), ((HB.out.cell (World.block_lt_of_cell? w _ hw178_8)).trans hw178_8), ((HB.out.cell (World.block_lt_of_cell? w _ hw178_9)).trans hw178_9), ((HB.out.cell (World.block_lt_of_cell? w _ hw178_10)).trans hw178_10), ((HB.out.cell (World.block_lt_of_cell? w _ hw178_11)).trans hw178_11), ((HB.out.cell (World.block_lt_of_cell? w _ hw179_0)).trans hw179_0), ((HB.out.cell (World.block_lt_of_cell? w _ hw179_1)).trans hw179_1), ((HB.out.cell (World.block_lt_of_cell? w _ hw179_2)).trans hw179_2), ((HB.out.cell (World.block_lt_of_cell? w _ hw179_3)).trans hw179_3), ((HB.out.cell (World.block_lt_of_cell? w _ hw179_4)).trans hw179_4), ((HB.out.cell (World.block_lt_of_cell? w _ hw179_5)).trans hw179_5), ((HB.out.cell (World.block_lt_of_cell? w _ hw179_6)).trans hw179_6), ((HB.out.cell (World.block_lt_of_cell? w _ hw179_7)).trans hw179_7), ((HB.out.cell (World.block_lt_of_cell? w _ hw179_8)).trans hw179_8), ((HB.out.cell (World.block_lt_of_cell? w _ hw179_9)).trans hw179_9), ((HB.out.cell (World.block_lt_of_cell? w _ hw179_10)).trans hw179_10), ((HB.out.cell (World.block_lt_of_cell? w _ hw179_11)).trans hw179_11)⟩ (fun hHeld => ?_); refine with_tabW cofferlaw22_told.tab7 cofferlaw22_told.bits7 (fun HT_ HW_ => ?_)
        generalize w27.drew = w28 at HO_3 HO171 HO174 BK168 BK175 HB HR176_10 HR176_7 HR177_10 HR177_7 HR178_10 HR178_7 HR179_10 HR179_7 hx176_0 hx176_1 hx176_10 hx176_11 hx176_2 hx176_3 hx176_4 hx176_5 hx176_6 hx176_7 hx176_8 hx176_9 hx177_0 hx177_1 hx177_10 hx177_11 hx177_2 hx177_3 hx177_4 hx177_5 hx177_6 hx177_7 hx177_8 hx177_9 hx178_0 hx178_1 hx178_10 hx178_11 hx178_2 hx178_3 hx178_4 hx178_5 hx178_6 hx178_7 hx178_8 hx178_9 hx179_0 hx179_1 hx179_10 hx179_11 hx179_2 hx179_3 hx179_4 hx179_5 hx179_6 hx179_7 hx179_8 hx179_9 hHeld ⊢
        refine pure_ (i := 0) (N := some 37) (v := ?_) (a' := ?_) #[true, false, false, false, false, false, false, false, false, false, false, false, false, false, false, false, false, false, false, false, false, false, false, false, false, false] rfl rfl (zap HT_.out (by kernel_rfl)) (fun _ _ _ h => h) (Or.inl ⟨by rfl, ?_⟩) ?_ ?_
        rotate_left
        ·
         intro w'
         go_simp
         with_reducible rfl
        rotate_left
        ·
         simp only [Act.put, List.setIfInBounds_toArray, List.set_cons_zero, List.set_cons_succ, i64_w, i32_w]
         rfl
        refine pure_ (i := 1) (N := some 38) (v := ?_) (a' := ?_) #[true, true, false, false, false, false, false, false, false, false, false, false, false, false, false, false, false, false, false, false, false, false, false, false, false, false] rfl rfl (zap HT_.out (by kernel_rfl)) (fun _ _ _ h => h) (Or.inl ⟨by rfl, ?_⟩) ?_ ?_
        rotate_left
        ·
         intro w'
         go_simp
         with_reducible rfl
        rotate_left
        ·
         simp only [Act.put, List.setIfInBounds_toArray, List.set_cons_zero, List.set_cons_succ, i64_w, i32_w]
         rfl
        refine pure_ (i := 2) (N := some 39) (v := ?_) (a' := ?_) #[true, true, true, false, false, false, false, false, false, false, false, false, false, false, false, false, false, false, false, false, false, false, false, false, false, false] rfl rfl (zap HT_.out (by kernel_rfl)) (fun _ _ _ h => h) (Or.inl ⟨by rfl, ?_⟩) ?_ ?_
        rotate_left
        ·
         intro w'
         go_simp
         with_reducible rfl
        rotate_left
        ·
         simp only [Act.put, List.setIfInBounds_toArray, List.set_cons_zero, List.set_cons_succ, i64_w, i32_w]
         rfl
        refine pure_ (i := 3) (N := some 40) (v := ?_) (a' := ?_) #[true, true, true, true, false, false, false, false, false, false, false, false, false, false, false, false, false, false, false, false, false, false, false, false, false, false] rfl rfl (zap HT_.out (by kernel_rfl)) (fun _ _ _ h => h) (Or.inl ⟨by rfl, ?_⟩) ?_ ?_
        rotate_left
        ·
         intro w'
         go_simp
         with_reducible rfl
        rotate_left
        ·
         simp only [Act.put, List.setIfInBounds_toArray, List.set_cons_zero, List.set_cons_succ, i64_w, i32_w]
         rfl
        refine pure_ (i := 4) (N := some 41) (v := ?_) (a' := ?_) #[true, true, true, true, true, false, false, false, false, false, false, false, false, false, false, false, false, false, false, false, false, false, false, false, false, false] rfl rfl (zap HT_.out (by kernel_rfl)) (fun _ _ _ h => h) (Or.inl ⟨by rfl, ?_⟩) ?_ ?_
        rotate_left
        ·
         intro w'
         go_simp
         with_reducible rfl
        rotate_left
        ·
         simp only [Act.put, List.setIfInBounds_toArray, List.set_cons_zero, List.set_cons_succ, i64_w, i32_w]
         rfl
        refine pure_ (i := 6) (N := some 43) (v := ?_) (a' := ?_) #[true, true, true, true, true, false, true, false, false, false, false, false, false, false, false, false, false, false, false, false, false, false, false, false, false, false] rfl rfl (zap HT_.out (by kernel_rfl)) (fun _ _ _ h => h) (Or.inl ⟨by rfl, ?_⟩) ?_ ?_
        rotate_left
        ·
         intro w'
         go_simp
         with_reducible rfl
        rotate_left
        ·
         simp only [Act.put, List.setIfInBounds_toArray, List.set_cons_zero, List.set_cons_succ, i64_w, i32_w]
         rfl
        refine pure_ (i := 7) (N := some 44) (v := ?_) (a' := ?_) #[true, true, true, true, true, false, true, true, false, false, false, false, false, false, false, false, false, false, false, false, false, false, false, false, false, false] rfl rfl (zap HT_.out (by kernel_rfl)) (fun _ _ _ h => h) (Or.inl ⟨by rfl, ?_⟩) ?_ ?_
        rotate_left
        ·
         intro w'
         go_simp
         with_reducible rfl
        rotate_left
        ·
         simp only [Act.put, List.setIfInBounds_toArray, List.set_cons_zero, List.set_cons_succ, i64_w, i32_w]
         rfl
        refine pure_ (i := 8) (N := some 45) (v := ?_) (a' := ?_) #[true, true, true, true, true, false, true, true, true, false, false, false, false, false, false, false, false, false, false, false, false, false, false, false, false, false] rfl rfl (zap HT_.out (by kernel_rfl)) (fun _ _ _ h => h) (Or.inl ⟨by rfl, ?_⟩) ?_ ?_
        rotate_left
        ·
         intro w'
         go_simp
         with_reducible rfl
        rotate_left
        ·
         simp only [Act.put, List.setIfInBounds_toArray, List.set_cons_zero, List.set_cons_succ, i64_w, i32_w]
         rfl
        refine pure_ (i := 9) (N := some 46) (v := ?_) (a' := ?_) #[true, true, true, true, true, false, true, true, true, true, false, false, false, false, false, false, false, false, false, false, false, false, false, false, false, false] rfl rfl (zap HT_.out (by kernel_rfl)) (fun _ _ _ h => h) (Or.inl ⟨by rfl, ?_⟩) ?_ ?_
        rotate_left
        ·
         intro w'
         go_simp
         with_reducible rfl
        rotate_left
        ·
         simp only [Act.put, List.setIfInBounds_toArray, List.set_cons_zero, List.set_cons_succ, i64_w, i32_w]
         rfl
        refine pure_ (i := 11) (N := some 48) (v := ?_) (a' := ?_) #[true, true, true, true, true, false, true, true, true, true, false, true, false, false, false, false, false, false, false, false, false, false, false, false, false, false] rfl rfl (zap HT_.out (by kernel_rfl)) (fun _ _ _ h => h) (Or.inl ⟨by rfl, ?_⟩) ?_ ?_
        rotate_left
        ·
         intro w'
         go_simp
         with_reducible rfl
        rotate_left
        ·
         simp only [Act.put, List.setIfInBounds_toArray, List.set_cons_zero, List.set_cons_succ, i64_w, i32_w]
         rfl
        refine pure_ (i := 12) (N := some 49) (v := ?_) (a' := ?_) #[true, true, true, true, true, false, true, true, true, true, false, true, true, false, false, false, false, false, false, false, false, false, false, false, false, false] rfl rfl (zap HT_.out (by kernel_rfl)) (fun _ _ _ h => h) (Or.inl ⟨by rfl, ?_⟩) ?_ ?_
        rotate_left
        ·
         intro w'
         go_simp
         with_reducible rfl
        rotate_left
        ·
         simp only [Act.put, List.setIfInBounds_toArray, List.set_cons_zero, List.set_cons_succ, i64_w, i32_w]
         rfl
        refine pure_ (i := 13) (N := some 50) (v := ?_) (a' := ?_) #[true, true, true, true, true, false, true, true, true, true, false, true, true, true, false, false, false, false, false, false, false, false, false, false, false, false] rfl rfl (zap HT_.out (by kernel_rfl)) (fun _ _ _ h => h) (Or.inl ⟨by rfl, ?_⟩) ?_ ?_
        rotate_left
        ·
         intro w'
         go_simp
         with_reducible rfl
        rotate_left
        ·
         simp only [Act.put, List.setIfInBounds_toArray, List.set_cons_zero, List.set_cons_succ, i64_w, i32_w]
         rfl
        refine pure_ (i := 14) (N := some 51) (v := ?_) (a' := ?_) #[true, true, true, true, true, false, true, true, true, true, false, true, true, true, true, false, false, false, false, false, false, false, false, false, false, false] rfl rfl (zap HT_.out (by kernel_rfl)) (fun _ _ _ h => h) (Or.inl ⟨by rfl, ?_⟩) ?_ ?_
        rotate_left
        ·
         intro w'
         go_simp
         with_reducible rfl
        rotate_left
        ·
         simp only [Act.put, List.setIfInBounds_toArray, List.set_cons_zero, List.set_cons_succ, i64_w, i32_w]
         rfl
        refine pure_ (i := 17) (N := some 54) (v := ?_) (a' := ?_) #[true, true, true, true, true, false, true, true, true, true, false, true, true, true, true, false, false, true, false, false, false, false, false, false, false, false] rfl rfl (zap HT_.out (by kernel_rfl)) (fun _ _ _ h => h) (Or.inl ⟨by rfl, ?_⟩) ?_ ?_
        rotate_left
        ·
         intro w'
         go_simp
         with_reducible rfl
        rotate_left
        ·
         simp only [Act.put, List.setIfInBounds_toArray, List.set_cons_zero, List.set_cons_succ, i64_w, i32_w]
         rfl
        refine pure_ (i := 18) (N := some 55) (v := ?_) (a' := ?_) #[true, true, true, true, true, false, true, true, true, true, false, true, true, true, true, false, false, true, true, false, false, false, false, false, false, false] rfl rfl (zap HT_.out (by kernel_rfl)) (fun _ _ _ h => h) (Or.inl ⟨by rfl, ?_⟩) ?_ ?_
        rotate_left
        ·
         intro w'
         go_simp
         with_reducible rfl
        rotate_left
        ·
         simp only [Act.put, List.setIfInBounds_toArray, List.set_cons_zero, List.set_cons_succ, i64_w, i32_w]
         rfl
        refine pure_ (i := 19) (N := some 56) (v := ?_) (a' := ?_) #[true, true, true, true, true, false, true, true, true, true, false, true, true, true, true, false, false, true, true, true, false, false, false, false, false, false] rfl rfl (zap HT_.out (by kernel_rfl)) (fun _ _ _ h => h) (Or.inl ⟨by rfl, ?_⟩) ?_ ?_
        rotate_left
        ·
         intro w'
         go_simp
         with_reducible rfl
        rotate_left
        ·
         simp only [Act.put, List.setIfInBounds_toArray, List.set_cons_zero, List.set_cons_succ, i64_w, i32_w]
         rfl
        refine pure_ (i := 20) (N := some 57) (v := ?_) (a' := ?_) #[true, true, true, true, true, false, true, true, true, true, false, true, true, true, true, false, false, true, true, true, true, false, false, false, false, false] rfl rfl (zap HT_.out (by kernel_rfl)) (fun _ _ _ h => h) (Or.inl ⟨by rfl, ?_⟩) ?_ ?_
        rotate_left
        ·
         intro w'
         go_simp
         with_reducible rfl
        rotate_left
        ·
         simp only [Act.put, List.setIfInBounds_toArray, List.set_cons_zero, List.set_cons_succ, i64_w, i32_w]
         rfl
        refine take_ (i := 5) (N := some 42) (v := ?_) (a' := ?_) #[true, true, true, true, true, true, true, true, true, true, false, true, true, true, true, false, false, true, true, true, true, false, false, false, false, false] rfl rfl (zbe HT_.out HW_.out (by kernel_rfl)) (fun _ _ _ h => h) (Or.inl ⟨by rfl, ?_⟩) hHeld ?_ ?_
        rotate_left
        ·
         rintro w' ⟨s0, s1, s2, s3, s4, s5, s6, s7, s8, s9, s10, s11, s12, s13, s14, s15, s16, s17, s18, s19, s20, s21, s22, s23, s24, s25, s26, s27, s28, s29, s30, s31, s32, s33, s34, s35, s36, s37, s38, s39, s40, s41, s42, s43, s44, s45, s46, s47, s48, s49, s50, s51, s52, s53, s54, s55⟩
         go_simp
         with_reducible rfl
        rotate_left
        ·
         simp only [Act.put, List.setIfInBounds_toArray, List.set_cons_zero, List.set_cons_succ, i64_w, i32_w]
         rfl
        refine take_ (i := 10) (N := some 47) (v := ?_) (a' := ?_) #[true, true, true, true, true, true, true, true, true, true, true, true, true, true, true, false, false, true, true, true, true, false, false, false, false, false] rfl rfl (zbe HT_.out HW_.out (by kernel_rfl)) (fun _ _ _ h => h) (Or.inl ⟨by rfl, ?_⟩) hHeld ?_ ?_
        rotate_left
        ·
         rintro w' ⟨s0, s1, s2, s3, s4, s5, s6, s7, s8, s9, s10, s11, s12, s13, s14, s15, s16, s17, s18, s19, s20, s21, s22, s23, s24, s25, s26, s27, s28, s29, s30, s31, s32, s33, s34, s35, s36, s37, s38, s39, s40, s41, s42, s43, s44, s45, s46, s47, s48, s49, s50, s51, s52, s53, s54, s55⟩
         go_simp
         with_reducible rfl
        rotate_left
        ·
         simp only [Act.put, List.setIfInBounds_toArray, List.set_cons_zero, List.set_cons_succ, i64_w, i32_w]
         rfl
        refine take_ (i := 15) (N := some 52) (v := ?_) (a' := ?_) #[true, true, true, true, true, true, true, true, true, true, true, true, true, true, true, true, false, true, true, true, true, false, false, false, false, false] rfl rfl (zbe HT_.out HW_.out (by kernel_rfl)) (fun _ _ _ h => h) (Or.inl ⟨by rfl, ?_⟩) hHeld ?_ ?_
        rotate_left
        ·
         rintro w' ⟨s0, s1, s2, s3, s4, s5, s6, s7, s8, s9, s10, s11, s12, s13, s14, s15, s16, s17, s18, s19, s20, s21, s22, s23, s24, s25, s26, s27, s28, s29, s30, s31, s32, s33, s34, s35, s36, s37, s38, s39, s40, s41, s42, s43, s44, s45, s46, s47, s48, s49, s50, s51, s52, s53, s54, s55⟩
         go_simp
         with_reducible rfl
        rotate_left
        ·
         simp only [Act.put, List.setIfInBounds_toArray, List.set_cons_zero, List.set_cons_succ, i64_w, i32_w]
         rfl
        refine take_ (i := 16) (N := some 53) (v := ?_) (a' := ?_) #[true, true, true, true, true, true, true, true, true, true, true, true, true, true, true, true, true, true, true, true, true, false, false, false, false, false] rfl rfl (zbe HT_.out HW_.out (by kernel_rfl)) (fun _ _ _ h => h) (Or.inl ⟨by rfl, ?_⟩) hHeld ?_ ?_
        rotate_left
        ·
         rintro w' ⟨s0, s1, s2, s3, s4, s5, s6, s7, s8, s9, s10, s11, s12, s13, s14, s15, s16, s17, s18, s19, s20, s21, s22, s23, s24, s25, s26, s27, s28, s29, s30, s31, s32, s33, s34, s35, s36, s37, s38, s39, s40, s41, s42, s43, s44, s45, s46, s47, s48, s49, s50, s51, s52, s53, s54, s55⟩
         go_simp
         with_reducible rfl
        rotate_left
        ·
         simp only [Act.put, List.setIfInBounds_toArray, List.set_cons_zero, List.set_cons_succ, i64_w, i32_w]
         rfl
        refine take_ (i := 21) (N := some 58) (v := ?_) (a' := ?_) #[true, true, true, true, true, true, true, true, true, true, true, true, true, true, true, true, true, true, true, true, true, true, false, false, false, false] rfl rfl (zbe HT_.out HW_.out (by kernel_rfl)) (fun _ _ _ h => h) (Or.inl ⟨by rfl, ?_⟩) hHeld ?_ ?_
        rotate_left
        ·
         rintro w' ⟨s0, s1, s2, s3, s4, s5, s6, s7, s8, s9, s10, s11, s12, s13, s14, s15, s16, s17, s18, s19, s20, s21, s22, s23, s24, s25, s26, s27, s28, s29, s30, s31, s32, s33, s34, s35, s36, s37, s38, s39, s40, s41, s42, s43, s44, s45, s46, s47, s48, s49, s50, s51, s52, s53, s54, s55⟩
         go_simp
         with_reducible rfl
        rotate_left
        ·
         simp only [Act.put, List.setIfInBounds_toArray, List.set_cons_zero, List.set_cons_succ, i64_w, i32_w]
         rfl
        refine pure_ (i := 22) (N := some 59) (v := ?_) (a' := ?_) #[true, true, true, true, true, true, true, true, true, true, true, true, true, true, true, true, true, true, true, true, true, true, true, false, false, false] rfl rfl (zap HT_.out (by kernel_rfl)) (fun _ _ _ h => h) (Or.inl ⟨by rfl, ?_⟩) ?_ ?_
        rotate_left
        ·
         intro w'
         go_simp
         with_reducible rfl
        rotate_left
        ·
         simp only [Act.put, List.setIfInBounds_toArray, List.set_cons_zero, List.set_cons_succ, i64_w, i32_w]
         rfl
        refine one_ (i := 23) (N := some 60) #[true, true, true, true, true, true, true, true, true, true, true, true, true, true, true, true, true, true, true, true, true, true, true, true, false, false] rfl rfl (one_of HT_.out (by kernel_rfl)) (by decide) (fun K hK => ?_)
        refine value_ (w1 := ?_) (v := ?_) (by rfl) rfl ?_ ?_
        rotate_left 2
        ·
         go_simp
         constructor
         ·
          rfl
         ·
          rfl
        refine hK.out _ _ ⟨(zaa (zag BK175.out _) 0).trans rfl, (zaa (zag BK175.out _) 1).trans rfl, (zaa (zag BK175.out _) 2).trans rfl, (zaa (zag BK175.out _) 3).trans rfl, (zaa (zag BK175.out _) 4).trans rfl, (zaa (zag BK175.out _) 5).trans rfl, (zaa (zag BK175.out _) 6).trans rfl, (zaa (zag BK175.out _) 7).trans rfl, (World.cell?_alloc_lt _ _ _ (World.block_lt_of_cell? _ _ (((HB.out.cell (World.block_lt_of_cell? w _ hw176_0)).trans hw176_0)))).trans (((HB.out.cell (World.block_lt_of_cell? w _ hw176_0)).trans hw176_0)), (World.cell?_alloc_lt _ _ _ (World.block_lt_of_cell? _ _ (((HB.out.cell (World.block_lt_of_cell? w _ hw176_1)).trans hw176_1)))).trans (((HB.out.cell (World.block_lt_of_cell? w _ hw176_1)).trans hw176_1)), (World.cell?_alloc_lt _ _ _ (World.block_lt_of_cell? _ _ (((HB.out.cell (World.block_lt_of_cell? w _ hw176_2)).trans hw176_2)))).trans (((HB.out.cell (World.block_lt_of_cell? w _ hw176_2)).trans hw176_2)), (World.cell?_alloc_lt _ _ _ (World.block_lt_of_cell? _ _ (((HB.out.cell (World.block_lt_of_cell? w _ hw176_3)).trans hw176_3)))).trans (((HB.out.cell (World.block_lt_of_cell? w _ hw176_3)).trans hw176_3)), (World.cell?_alloc_lt _ _ _ (World.block_lt_of_cell? _ _ (((HB.out.cell (World.block_lt_of_cell? w _ hw176_4)).trans hw176_4)))).trans (((HB.out.cell (World.block_lt_of_cell? w _ hw176_4)).trans hw176_4)), (World.cell?_alloc_lt _ _ _ (World.block_lt_of_cell? _ _ (((HB.out.cell (World.block_lt_of_cell? w _ hw176_5)).trans hw176_5)))).trans (((HB.out.cell (World.block_lt_of_cell? w _ hw176_5)).trans hw176_5)), (World.cell?_alloc_lt _ _ _ (World.block_lt_of_cell? _ _ (((HB.out.cell (World.block_lt_of_cell? w _ hw176_6)).trans hw176_6)))).trans (((HB.out.cell (World.block_lt_of_cell? w _ hw176_6)).trans hw176_6)), (World.cell?_alloc_lt _ _ _ (World.block_lt_of_cell? _ _ (((HB.out.cell (World.block_lt_of_cell? w _ hw176_7)).trans hw176_7)))).trans (((HB.out.cell (World.block_lt_of_cell? w _ hw176_7)).trans hw176_7)), (World.cell?_alloc_lt _ _ _ (World.block_lt_of_cell? _ _ (((HB.out.cell (World.block_lt_of_cell? w _ hw176_8)).trans hw176_8)))).trans (((HB.out.cell (World.block_lt_of_cell? w _ hw176_8)).trans hw176_8)), (World.cell?_alloc_lt _ _ _ (World.block_lt_of_cell? _ _ (((HB.out.cell (World.block_lt_of_cell? w _ hw176_9)).trans hw176_9)))).trans (((HB.out.cell (World.block_lt_of_cell? w _ hw176_9)).trans hw176_9)), (World.cell?_alloc_lt _ _ _ (World.block_lt_of_cell? _ _ (((HB.out.cell (World.block_lt_of_cell? w _ hw176_10)).trans hw176_10)))).trans (((HB.out.cell (World.block_lt_of_cell? w _ hw176_10)).trans hw176_10)), (World.cell?_alloc_lt _ _ _ (World.block_lt_of_cell? _ _ (((HB.out.cell (World.block_lt_of_cell? w _ hw176_11)).trans hw176_11)))).trans (((HB.out.cell (World.block_lt_of_cell? w _ hw176_11)).trans hw176_11)), (World.cell?_alloc_lt _ _ _ (World.block_lt_of_cell? _ _ (((HB.out.cell (World.block_lt_of_cell? w _ hw177_0)).trans hw177_0)))).trans (((HB.out.cell (World.block_lt_of_cell? w _ hw177_0)).trans hw177_0)), (World.cell?_alloc_lt _ _ _ (World.block_lt_of_cell? _ _ (((HB.out.cell (World.block_lt_of_cell? w _ hw177_1)).trans hw177_1)))).trans (((HB.out.cell (World.block_lt_of_cell? w _ hw177_1)).trans hw177_1)), (World.cell?_alloc_lt _ _ _ (World.block_lt_of_cell? _ _ (((HB.out.cell (World.block_lt_of_cell? w _ hw177_2)).trans hw177_2)))).trans (((HB.out.cell (World.block_lt_of_cell? w _ hw177_2)).trans hw177_2)), (World.cell?_alloc_lt _ _ _ (World.block_lt_of_cell? _ _ (((HB.out.cell (World.block_lt_of_cell? w _ hw177_3)).trans hw177_3)))).trans (((HB.out.cell (World.block_lt_of_cell? w _ hw177_3)).trans hw177_3)), (World.cell?_alloc_lt _ _ _ (World.block_lt_of_cell? _ _ (((HB.out.cell (World.block_lt_of_cell? w _ hw177_4)).trans hw177_4)))).trans (((HB.out.cell (World.block_lt_of_cell? w _ hw177_4)).trans hw177_4)), (World.cell?_alloc_lt _ _ _ (World.block_lt_of_cell? _ _ (((HB.out.cell (World.block_lt_of_cell? w _ hw177_5)).trans hw177_5)))).trans (((HB.out.cell (World.block_lt_of_cell? w _ hw177_5)).trans hw177_5)), (World.cell?_alloc_lt _ _ _ (World.block_lt_of_cell? _ _ (((HB.out.cell (World.block_lt_of_cell? w _ hw177_6)).trans hw177_6)))).trans (((HB.out.cell (World.block_lt_of_cell? w _ hw177_6)).trans hw177_6)), (World.cell?_alloc_lt _ _ _ (World.block_lt_of_cell? _ _ (((HB.out.cell (World.block_lt_of_cell? w _ hw177_7)).trans hw177_7)))).trans (((HB.out.cell (World.block_lt_of_cell? w _ hw177_7)).trans hw177_7)), (World.cell?_alloc_lt _ _ _ (World.block_lt_of_cell? _ _ (((HB.out.cell (World.block_lt_of_cell? w _ hw177_8)).trans hw177_8)))).trans (((HB.out.cell (World.block_lt_of_cell? w _ hw177_8)).trans hw177_8)), (World.cell?_alloc_lt _ _ _ (World.block_lt_of_cell? _ _ (((HB.out.cell (World.block_lt_of_cell? w _ hw177_9)).trans hw177_9)))).trans (((HB.out.cell (World.block_lt_of_cell? w _ hw177_9)).trans hw177_9)), (World.cell?_alloc_lt _ _ _ (World.block_lt_of_cell? _ _ (((HB.out.cell (World.block_lt_of_cell? w _ hw177_10)).trans hw177_10)))).trans (((HB.out.cell (World.block_lt_of_cell? w _ hw177_10)).trans hw177_10)), (World.cell?_alloc_lt _ _ _ (World.block_lt_of_cell? _ _ (((HB.out.cell (World.block_lt_of_cell? w _ hw177_11)).trans hw177_11)))).trans (((HB.out.cell (World.block_lt_of_cell? w _ hw177_11)).trans hw177_11)), (World.cell?_alloc_lt _ _ _ (World.block_lt_of_cell? _ _ (((HB.out.cell (World.block_lt_of_cell? w _ hw178_0)).trans hw178_0)))).trans (((HB.out.cell (World.block_lt_of_cell? w _ hw178_0)).trans hw178_0)), (World.cell?_alloc_lt _ _ _ (World.block_lt_of_cell? _ _ (((HB.out.cell (World.block_lt_of_cell? w _ hw178_1)).trans hw178_1)))).trans (((HB.out.cell (World.block_lt_of_cell? w _ hw178_1)).trans hw178_1)), (World.cell?_alloc_lt _ _ _ (World.block_lt_of_cell? _ _ (((HB.out.cell (World.block_lt_of_cell? w _ hw178_2)).trans hw178_2)))).trans (((HB.out.cell (World.block_lt_of_cell? w _ hw178_2)).trans hw178_2)), (World.cell?_alloc_lt _ _ _ (World.block_lt_of_cell? _ _ (((HB.out.cell (World.block_lt_of_cell? w _ hw178_3)).trans hw178_3)))).trans (((HB.out.cell (World.block_lt_of_cell? w _ hw178_3)).trans hw178_3)), (World.cell?_alloc_lt _ _ _ (World.block_lt_of_cell? _ _ (((HB.out.cell (World.block_lt_of_cell? w _ hw178_4)).trans hw178_4)))).trans (((HB.out.cell (World.block_lt_of_cell? w _ hw178_4)).trans hw178_4)), (World.cell?_alloc_lt _ _ _ (World.block_lt_of_cell? _ _ (((HB.out.cell (World.block_lt_of_cell? w _ hw178_5)).trans hw178_5)))).trans (((HB.out.cell (World.block_lt_of_cell? w _ hw178_5)).trans hw178_5)), (World.cell?_alloc_lt _ _ _ (World.block_lt_of_cell? _ _ (((HB.out.cell (World.block_lt_of_cell? w _ hw178_6)).trans hw178_6)))).trans (((HB.out.cell (World.block_lt_of_cell? w _ hw178_6)).trans hw178_6)), (World.cell?_alloc_lt _ _ _ (World.block_lt_of_cell? _ _ (((HB.out.cell (World.block_lt_of_cell? w _ hw178_7)).trans hw178_7)))).trans (((HB.out.cell (World.block_lt_of_cell? w _ hw178_7)).trans hw178_7)), (World.cell?_alloc_lt _ _ _ (World.block_lt_of_cell? _ _ (((HB.out.cell (World.block_lt_of_cell? w _ hw178_8)).trans hw178_8)))).trans (((HB.out.cell (World.block_lt_of_cell? w _ hw178_8)).trans hw178_8)), (World.cell?_alloc_lt _ _ _ (World.block_lt_of_cell? _ _ (((HB.out.cell (World.block_lt_of_cell? w _ hw178_9)).trans hw178_9)))).trans (((HB.out.cell (World.block_lt_of_cell? w _ hw178_9)).trans hw178_9)), (World.cell?_alloc_lt _ _ _ (World.block_lt_of_cell? _ _ (((HB.out.cell (World.block_lt_of_cell? w _ hw178_10)).trans hw178_10)))).trans (((HB.out.cell (World.block_lt_of_cell? w _ hw178_10)).trans hw178_10)), (World.cell?_alloc_lt _ _ _ (World.block_lt_of_cell? _ _ (((HB.out.cell (World.block_lt_of_cell? w _ hw178_11)).trans hw178_11)))).trans (((HB.out.cell (World.block_lt_of_cell? w _ hw178_11)).trans hw178_11)), (World.cell?_alloc_lt _ _ _ (World.block_lt_of_cell? _ _ (((HB.out.cell (World.block_lt_of_cell? w _ hw179_0)).trans hw179_0)))).trans (((HB.out.cell (World.block_lt_of_cell? w _ hw179_0)).trans hw179_0)), (World.cell?_alloc_lt _ _ _ (World.block_lt_of_cell? _ _ (((HB.out.cell (World.block_lt_of_cell? w _ hw179_1)).trans hw179_1)))).trans (((HB.out.cell (World.block_lt_of_cell? w _ hw179_1)).trans hw179_1)), (World.cell?_alloc_lt _ _ _ (World.block_lt_of_cell? _ _ (((HB.out.cell (World.block_lt_of_cell? w _ hw179_2)).trans hw179_2)))).trans (((HB.out.cell (World.block_lt_of_cell? w _ hw179_2)).trans hw179_2)), (World.cell?_alloc_lt _ _ _ (World.block_lt_of_cell? _ _ (((HB.out.cell (World.block_lt_of_cell? w _ hw179_3)).trans hw179_3)))).trans (((HB.out.cell (World.block_lt_of_cell? w _ hw179_3)).trans hw179_3)), (World.cell?_alloc_lt _ _ _ (World.block_lt_of_cell? _ _ (((HB.out.cell (World.block_lt_of_cell? w _ hw179_4)).trans hw179_4)))).trans (((HB.out.cell (World.block_lt_of_cell? w _ hw179_4)).trans hw179_4)), (World.cell?_alloc_lt _ _ _ (World.block_lt_of_cell? _ _ (((HB.out.cell (World.block_lt_of_cell? w _ hw179_5)).trans hw179_5)))).trans (((HB.out.cell (World.block_lt_of_cell? w _ hw179_5)).trans hw179_5)), (World.cell?_alloc_lt _ _ _ (World.block_lt_of_cell? _ _ (((HB.out.cell (World.block_lt_of_cell? w _ hw179_6)).trans hw179_6)))).trans (((HB.out.cell (World.block_lt_of_cell? w _ hw179_6)).trans hw179_6)), (World.cell?_alloc_lt _ _ _ (World.block_lt_of_cell? _ _ (((HB.out.cell (World.block_lt_of_cell? w _ hw179_7)).trans hw179_7)))).trans (((HB.out.cell (World.block_lt_of_cell? w _ hw179_7)).trans hw179_7)), (World.cell?_alloc_lt _ _ _ (World.block_lt_of_cell? _ _ (((HB.out.cell (World.block_lt_of_cell? w _ hw179_8)).trans hw179_8)))).trans (((HB.out.cell (World.block_lt_of_cell? w _ hw179_8)).trans hw179_8)), (World.cell?_alloc_lt _ _ _ (World.block_lt_of_cell? _ _ (((HB.out.cell (World.block_lt_of_cell? w _ hw179_9)).trans hw179_9)))).trans (((HB.out.cell (World.block_lt_of_cell? w _ hw179_9)).trans hw179_9)), (World.cell?_alloc_lt _ _ _ (World.block_lt_of_cell? _ _ (((HB.out.cell (World.block_lt_of_cell? w _ hw179_10)).trans hw179_10)))).trans (((HB.out.cell (World.block_lt_of_cell? w _ hw179_10)).trans hw179_10)), (World.cell?_alloc_lt _ _ _ (World.block_lt_of_cell? _ _ (((HB.out.cell (World.block_lt_of_cell? w _ hw179_11)).trans hw179_11)))).trans (((HB.out.cell (World.block_lt_of_cell? w _ hw179_11)).trans hw179_11))⟩ (fun hHeld => ?_)
        clear hK K
        refine norm_ (a' := ?_) ?_ ?_
        rotate_left
        ·
         show Act.put _ (some 60) _ = _
         simp only [Act.put, List.setIfInBounds_toArray, List.set_cons_zero, List.set_cons_succ, i64_w, i32_w]
         rfl
        refine one_ (i := 24) (N := some 61) #[true, true, true, true, true, true, true, true, true, true, true, true, true, true, true, true, true, true, true, true, true, true, true, true, true, false] rfl rfl (one_of HT_.out (by kernel_rfl)) (by decide) (fun K hK => ?_)
        refine Kd.S_append_step k57 (w0 := w) w.heap.size (by rfl) (.tmp 37) (.tmp 60) 22 57 (.agg #[(.int .i64 0), (.int .i64 0), (.int .i64 0), (.int .i64 0), (.string ⟨#[]⟩), (.string ⟨#[]⟩), (.string ⟨#[]⟩), (.slice none 0 0), (.int .i64 0), (.int .i64 0), (.slice none 0 0), (.string ⟨#[]⟩)]) 160 rfl Tryd.underlying22 info57 rfl (by decide) (by omega) u3 x3_1 (⟨(zaf l0 x4_1).f0, (zaf l0 x4_1).f1, (zaf l0 x4_1).f2, (⟨(zaf l0 x4_1).f3.f0, (zaf l0 x4_1).f3.f1, (zaf l0 x4_1).f3.f2, (zaf l0 x4_1).f3.f3, y169, (zaf l0 x4_1).f3.f5, (zaf l0 x4_1).f3.f6, y172⟩ : S55), (zaf l0 x4_1).f4⟩ : S57) [.int .i64 ((zaf l0 x4_1).f0), .int .i64 ((zaf l0 x4_1).f1), .int .i64 ((zaf l0 x4_1).f2), .int .i64 ((zaf l0 x4_1).f3.f0), .string ((zaf l0 x4_1).f3.f1), .string ((zaf l0 x4_1).f3.f2), .string ((zaf l0 x4_1).f3.f3), .slice Ao18 y169.length co18, .int .i64 ((zaf l0 x4_1).f3.f5), .int .i64 ((zaf l0 x4_1).f3.f6), .slice Ao17 y172.length co17, .string ((zaf l0 x4_1).f4)] (fun _ => True) (fun k_ => some k_ = (.slice Ao18 y169.length co18 : Value).ownBlock ∨ some k_ = (.slice Ao17 y172.length co17 : Value).ownBlock) rfl rfl ?aP (fun k_ hk_ => hk_.elim (fun h_ => ((Kd.R_mono (ok' := fun k_ => ((fun _ => True)) k_ ∧ some k_ ≠ (u3 : Value).ownBlock) (Kd.R_apart' (HO171.out) (Kd.S_typed HO_3.out) (by decide)) (fun k_ hk => ⟨trivial, hk.2⟩))).1 k_ h_.symm) (fun h_ => ((Kd.R_mono (ok' := fun k_ => ((fun _ => True)) k_ ∧ some k_ ≠ (u3 : Value).ownBlock) (Kd.R_apart' (HO174.out) (Kd.S_typed HO_3.out) (by decide)) (fun k_ hk => ⟨trivial, hk.2⟩))).1 k_ h_.symm)) ?aF ?aO ?aB ?aS ?aL ?_
        (case aP => exact k57_mkM _ _ _ (⟨(zaf l0 x4_1).f0, (zaf l0 x4_1).f1, (zaf l0 x4_1).f2, (⟨(zaf l0 x4_1).f3.f0, (zaf l0 x4_1).f3.f1, (zaf l0 x4_1).f3.f2, (zaf l0 x4_1).f3.f3, y169, (zaf l0 x4_1).f3.f5, (zaf l0 x4_1).f3.f6, y172⟩ : S55), (zaf l0 x4_1).f4⟩ : S57) (Kd.R_mono (Kd.R_tight rfl (Kd.R_mono (ok' := fun k_ => ((fun _ => True)) k_ ∧ some k_ ≠ (u3 : Value).ownBlock) (Kd.R_apart' (HO171.out) (Kd.S_typed HO_3.out) (by decide)) (fun k_ hk => ⟨trivial, hk.2⟩))) (fun _ h_ => Or.inl h_)) (Kd.R_mono (Kd.R_tight rfl (Kd.R_mono (ok' := fun k_ => ((fun _ => True)) k_ ∧ some k_ ≠ (u3 : Value).ownBlock) (Kd.R_apart' (HO174.out) (Kd.S_typed HO_3.out) (by decide)) (fun k_ hk => ⟨trivial, hk.2⟩))) (fun _ h_ => Or.inr (h_))))
        (case aB => exact (by repeat (first | (with_reducible first | exact HB.out | apply zad | apply zab | apply zac | refine zak ?_ GE168.out | refine zak ?_ GE175.out) | exact HB.out)))
        (case aF => exact (fun _ _ => trivial))
        (case aO => exact (by (with_reducible repeat (first | apply Kd.S_alloc | apply Kd.S_drewN | apply Kd.S_drew)); exact Kd.S_mono HO_3.out (fun k_ hk => ⟨trivial, fun e_ => e_.elim (fun h_ => hk.1 h_) (fun h_ => hk.2 h_)⟩)))
        (case aS => exact (zaj (by repeat (first | (with_reducible first | exact HB.out | apply zad | apply zab | apply zac | refine zak ?_ GE168.out | refine zak ?_ GE175.out) | exact HB.out))))
        (case aL => have := LMc6.out; omega)
        intro v181 w29 ho hb hg hat
        rw [← Ny180.out] at ho
        have n0_ := Aside0.mk (zbp (g := gb168) (o := .cells #[.int .i64 ((zaf l0 x4_1).f3.f0), .string ((zaf l0 x4_1).f3.f1), .string ((zaf l0 x4_1).f3.f2), .string ((zaf l0 x4_1).f3.f3), .slice A167_7 ((zaf l0 x4_1).f3.f4).length c167_7, .int .i64 ((zaf l0 x4_1).f3.f5), .int .i64 ((zaf l0 x4_1).f3.f6), .slice A167_10 ((zaf l0 x4_1).f3.f7).length c167_10] 34 (0, 0)) (by (with_reducible repeat (first | refine zah ?_ _ | refine zai ?_ | refine zag ?_ _)); exact BK168.out) hg (Kd.S_ne HO_3.out BK168.out (by decide)))
        have n1_ := Aside0.mk (zbp (g := gb175) (o := .cells #[.int .i64 ((zaf l0 x4_1).f3.f0), .string ((zaf l0 x4_1).f3.f1), .string ((zaf l0 x4_1).f3.f2), .string ((zaf l0 x4_1).f3.f3), .slice Ao18 y169.length co18, .int .i64 ((zaf l0 x4_1).f3.f5), .int .i64 ((zaf l0 x4_1).f3.f6), .slice Ao17 y172.length co17] 55 (0, 0)) (by (with_reducible repeat (first | refine zah ?_ _ | refine zai ?_ | refine zag ?_ _)); exact BK175.out) hg (Kd.S_ne HO_3.out BK175.out (by decide)))
        have n2_ := Aside0.mk (hb)
        have n3_ := Aside0.mk (ho)
        clear BK168
        clear BK175
        clear HB
        clear HO_3
        clear HO171
        clear HO174
        have BK168 := n0_
        have BK175 := n1_
        have HB := n2_
        have HO182 := n3_
        clear n0_ n1_ n2_ n3_
        clear ho hb hg hat
        refine hK.out _ _ ⟨(zaa BK175.out 0).trans rfl, (zaa BK175.out 1).trans rfl, (zaa BK175.out 2).trans rfl, (zaa BK175.out 3).trans rfl, (zaa BK175.out 4).trans rfl, (zaa BK175.out 5).trans rfl, (zaa BK175.out 6).trans rfl, (zaa BK175.out 7).trans rfl, ((HB.out.cell (World.block_lt_of_cell? w _ hw176_0)).trans hw176_0), ((HB.out.cell (World.block_lt_of_cell? w _ hw176_1)).trans hw176_1), ((HB.out.cell (World.block_lt_of_cell? w _ hw176_2)).trans hw176_2), ((HB.out.cell (World.block_lt_of_cell? w _ hw176_3)).trans hw176_3), ((HB.out.cell (World.block_lt_of_cell? w _ hw176_4)).trans hw176_4), ((HB.out.cell (World.block_lt_of_cell? w _ hw176_5)).trans hw176_5), ((HB.out.cell (World.block_lt_of_cell? w _ hw176_6)).trans hw176_6), ((HB.out.cell (World.block_lt_of_cell? w _ hw176_7)).trans hw176_7), ((HB.out.cell (World.block_lt_of_cell? w _ hw176_8)).trans hw176_8), ((HB.out.cell (World.block_lt_of_cell? w _ hw176_9)).trans hw176_9), ((HB.out.cell (World.block_lt_of_cell? w _ hw176_10)).trans hw176_10), ((HB.out.cell (World.block_lt_of_cell? w _ hw176_11)).trans hw176_11), ((HB.out.cell (World.block_lt_of_cell? w _ hw177_0)).trans hw177_0), ((HB.out.cell (World.block_lt_of_cell? w _ hw177_1)).trans hw177_1), ((HB.out.cell (World.block_lt_of_cell? w _ hw177_2)).trans hw177_2), ((HB.out.cell (World.block_lt_of_cell? w _ hw177_3)).trans hw177_3), ((HB.out.cell (World.block_lt_of_cell? w _ hw177_4)).trans hw177_4), ((HB.out.cell (World.block_lt_of_cell? w _ hw177_5)).trans hw177_5), ((HB.out.cell (World.block_lt_of_cell? w _ hw177_6)).trans hw177_6), ((HB.out.cell (World.block_lt_of_cell? w _ hw177_7)).trans hw177_7), ((HB.out.cell (World.block_lt_of_cell? w _ hw177_8)).trans hw177_8), ((HB.out.cell (World.block_lt_of_cell? w _ hw177_9)).trans hw177_9), ((HB.out.cell (World.block_lt_of_cell? w _ hw177_10)).trans hw177_10), ((HB.out.cell (World.block_lt_of_cell? w _ hw177_11)).trans hw177_11), ((HB.out.cell (World.block_lt_of_cell? w _ hw178_0)).trans hw178_0), ((HB.out.cell (World.block_lt_of_cell? w _ hw178_1)).trans hw178_1), ((HB.out.cell (World.block_lt_of_cell? w _ hw178_2)).trans hw178_2), ((HB.out.cell (World.block_lt_of_cell? w _ hw178_3)).trans hw178_3), ((HB.out.cell (World.block_lt_of_cell? w _ hw178_4)).trans hw178_4), ((HB.out.cell (World.block_lt_of_cell? w _ hw178_5)).trans hw178_5), ((HB.out.cell (World.block_lt_of_cell? w _ hw178_6)).trans hw178_6), ((HB.out.cell (World.block_lt_of_cell? w _ hw178_7)).trans hw178_7), ((HB.out.cell (World.block_lt_of_cell? w _ hw178_8)).trans hw178_8), ((HB.out.cell (World.block_lt_of_cell? w _ hw178_9)).trans hw178_9), ((HB.out.cell (World.block_lt_of_cell? w _ hw178_10)).trans hw178_10), ((HB.out.cell (World.block_lt_of_cell? w _ hw178_11)).trans hw178_11), ((HB.out.cell (World.block_lt_of_cell? w _ hw179_0)).trans hw179_0), ((HB.out.cell (World.block_lt_of_cell? w _ hw179_1)).trans hw179_1), ((HB.out.cell (World.block_lt_of_cell? w _ hw179_2)).trans hw179_2), ((HB.out.cell (World.block_lt_of_cell? w _ hw179_3)).trans hw179_3), ((HB.out.cell (World.block_lt_of_cell? w _ hw179_4)).trans hw179_4), ((HB.out.cell (World.block_lt_of_cell? w _ hw179_5)).trans hw179_5), ((HB.out.cell (World.block_lt_of_cell? w _ hw179_6)).trans hw179_6), ((HB.out.cell (World.block_lt_of_cell? w _ hw179_7)).trans hw179_7), ((HB.out.cell (World.block_lt_of_cell? w _ hw179_8)).trans hw179_8), ((HB.out.cell (World.block_lt_of_cell? w _ hw179_9)).trans hw179_9), ((HB.out.cell (World.block_lt_of_cell? w _ hw179_10)).trans hw179_10), ((HB.out.cell (World.block_lt_of_cell? w _ hw179_11)).trans hw179_11)⟩ (fun hHeld => ?_)
        clear hK K
        refine norm_ (a' := ?_) ?_ ?_
        rotate_left
        ·
         show Act.put _ (some 61) _ = _
         simp only [Act.put, List.setIfInBounds_toArray, List.set_cons_zero, List.set_cons_succ, i64_w, i32_w]
         rfl
        refine pure_ (i := 25) (N := some 3) (v := ?_) (a' := ?_) #[true, true, true, true, true, true, true, true, true, true, true, true, true, true, true, true, true, true, true, true, true, true, true, true, true, true] rfl rfl (zap HT_.out (by kernel_rfl)) (fun _ _ _ h => h) (Or.inl ⟨by rfl, ?_⟩) ?_ ?_
        rotate_left
        ·
         intro w'
         go_simp
         with_reducible rfl
        rotate_left
        ·
         simp only [Act.put, List.setIfInBounds_toArray, List.set_cons_zero, List.set_cons_succ, i64_w, i32_w]
         rfl
        refine done_ (done_of HT_.out (by kernel_rfl)) ?_
        try go_wp2
        go_roundg k1
        case measure => have := HK1.out; omega
        case rel => exact ⟨(y180), (wrap64 (x4_1 + 1)), (by first | rfl | (simp; done) | (simp [*]; done)), H', ⟨by have := HK1.out; omega⟩, ⟨by (with_reducible repeat (first | apply Kd.S_alloc | apply Kd.S_drewN | apply Kd.S_drew)); exact HO182.out⟩, ⟨by repeat (first | (with_reducible first | exact HB.out | apply zad | apply zab | apply zac | refine zak ?_ GE168.out | refine zak ?_ GE175.out) | exact HB.out)⟩⟩
       ·
        rw [if_neg c6] at H
        exact absurd H (by simp)
      ·
       rw [if_neg c5] at H
       exact absurd H (by simp)
     ·
      rw [if_neg c4] at H
      exact absurd H (by simp)
    ·
     rw [if_neg c3] at H
     exact absurd H (by simp)
   ·
    rw [if_neg c2] at H
    have c2b0 : decide (x4_1 < (l0.length : Int)) = false := decide_eq_false c2
    clear c2
    obtain rfl := Option.some.inj H
    go_wp2
    go_ret
    exact ⟨_, by first | rfl | (simp [zal, zam] <;> rfl) | (simp [*, zal, zam] <;> rfl), by (with_reducible repeat (first | apply Kd.S_alloc | apply Kd.S_drewN | apply Kd.S_drew)); exact HO_3.out, by repeat (first | (with_reducible first | exact HB.out | apply zad | apply zab | apply zac) | exact HB.out)⟩

end Go.Proofs.YtdmlgligljagoaaDoor.PS

set_option linter.unusedVariables false
set_option linter.unusedSimpArgs false
namespace Go.Proofs.YtdmlgligljagoaaDoor
open Go.RowKit Go.Proofs.YtdmlgligljagoaaDoorW.PrintWords PS

def toldS (s : S34) : S55 := ⟨s.f0, s.f1, s.f2, s.f3, s.f4, s.f5, s.f6, s.f7⟩
def toldC (c : S36) : S57 := ⟨c.f0, c.f1, c.f2, toldS c.f3, c.f4⟩
/-- lists short enough for the machine -/
def Short (l : List S36) : Prop := l.length ≤ 4294967296 ∧ ∀ c ∈ l, c.f3.f4.length ≤ 4294967296 ∧ c.f3.f7.length ≤ 4294967296
theorem rdK_get (l : List S36) (i : Nat) (h : i < l.length) : zaf l (i : Int) = l[i]'h := by unfold zaf; simp [h]
theorem told_go (l : List S36) (h : Short l) : ∀ d i (acc : List S57), i + d = l.length → acc.length = i →
    Ev (fun k => cofferlaw22_told.l0 k l acc (i : Int)) (acc ++ (l.drop i).map toldC) := by
  obtain ⟨h0, h1⟩ := h
  intro d
  induction d with
  | zero =>
    intro i acc hi ha
    refine Ev.step (f := fun _ => some _) (fun k => ?_) (Ev.now _)
    rw [cofferlaw22_told.l0, if_neg (by omega), List.drop_of_length_le (by omega)]
    simp
  | succ d ih =>
    intro i acc hi ha
    have hlt : i < l.length := by omega
    have hr := rdK_get l i hlt
    obtain ⟨h4, h7⟩ := h1 _ (List.getElem_mem hlt)
    rw [List.drop_eq_getElem_cons hlt, List.map_cons]
    have hn := ih (i + 1) (acc ++ [toldC (l[i]'hlt)]) (by omega) (by simp; omega)
    rw [List.append_assoc] at hn
    refine Ev.step (fun k => ?_) hn
    rw [cofferlaw22_told.l0, if_pos (by omega), if_pos (by omega), hr, if_pos (by simp; omega), if_pos (by simp; omega), if_pos (by omega), w64s (by omega)]
    rfl
theorem told_ev (l : List S36) (h : Short l) : Ev (fun k => cofferlaw22_told.f k l) (l.map toldC) := by
  have := told_go l h l.length 0 [] (by omega) rfl
  rw [List.drop_zero, List.nil_append] at this
  exact this
theorem same_is (l m : List S57) (h : ∀ c ∈ l, c.f3.f4.length ≤ 4294967296 ∧ c.f3.f7.length ≤ 4294967296) : cofferref22_Same.f l m = some (decide (l = m)) := by
  unfold cofferref22_Same.f
  rw [if_pos (fun c hc => by have := h c hc; omega)]
theorem told_short {l : List S36} (h : Short l) : ∀ c ∈ l.map toldC, c.f3.f4.length ≤ 4294967296 ∧ c.f3.f7.length ≤ 4294967296 := by
  intro c hc
  obtain ⟨x, hx, rfl⟩ := List.mem_map.1 hc
  exact h.2 x hx
theorem clean_short {l : List S36} (h : ∀ c ∈ l, Clean 8192 c) (hn : l.length ≤ 1024) : Short l :=
  ⟨by omega, fun c hc => by have h4 := (h c hc).st.n4; have h7 := (h c hc).st.n7; omega⟩
theorem parse_short {s : List UInt8} {l : List S36} (h : zax s = (l, 0)) : Short l := by
  obtain ⟨h1, h2⟩ := parse_clean h
  exact clean_short h1 h2
end Go.Proofs.YtdmlgligljagoaaDoor

set_option linter.unusedVariables false
set_option linter.unusedSimpArgs false
namespace Go.Proofs.YtdmlgligljagoaaDoor
open Go.RowKit PS

def valD (l : List UInt8) : Nat := l.foldl (fun a c => 10 * a + (c.toNat - 48)) 0
theorem valD_dec (u : Nat) : valD (Lib.decDigits u) = u := by
  induction u using Nat.strongRecOn with
  | ind u ih =>
    by_cases h : u < 10
    · rw [Lib.decDigits_one h]
      show 10 * 0 + ((UInt8.ofNat (48 + u)).toNat - 48) = u
      rw [dig_toNat h]; omega
    · have h10 : u % 10 < 10 := Nat.mod_lt _ (by omega)
      rw [show Lib.decDigits u = Lib.decDigits (u / 10) ++ [UInt8.ofNat (48 + u % 10)] from by rw [Lib.decDigits, dif_neg h]]
      unfold valD
      rw [List.foldl_append]
      have := ih (u / 10) (by omega)
      unfold valD at this
      rw [this]
      show 10 * (u / 10) + ((UInt8.ofNat (48 + u % 10)).toNat - 48) = u
      rw [dig_toNat h10]; omega
theorem itoa_zero_head {m : Int} {r : List UInt8} (h : Lib.itoa m = 48 :: r) : r = [] := by
  have hd : ∀ u : Nat, ∀ r, Lib.decDigits u = 48 :: r → r = [] := by
    intro u
    induction u using Nat.strongRecOn with
    | ind u ih =>
      intro r hr
      by_cases h : u < 10
      · rw [Lib.decDigits_one h] at hr
        simp only [List.cons.injEq] at hr
        exact hr.2.symm
      · rw [Lib.decDigits, dif_neg h] at hr
        obtain ⟨c, r', e', h1, _⟩ := decDigits_head (u / 10)
        rw [e', List.cons_append] at hr
        simp only [List.cons.injEq] at hr
        have hr0 := ih (u / 10) (by omega) r' (by rw [e', hr.1])
        rw [hr0, hr.1] at e'
        have := valD_dec (u / 10)
        rw [e'] at this
        have : (0 : Nat) = u / 10 := this
        omega
  unfold Lib.itoa at h
  split at h
  · simp only [List.cons.injEq] at h
    exact absurd h.1 (by decide)
  · exact hd _ _ h
def bFall : List UInt8 := [102, 97, 108, 108]
theorem fall_word : wordOf 17 = bs bFall := by decide +kernel
/-- a line that begins with 'fall' and whose other words are told -/
theorem fall_line (s : List UInt8) (r : List S88) (h : wordsV s = (wP bFall :: r, true)) : (lineV s).2 = (!(numN r false).2.2 && (numN r false).2.1.isEmpty) := by
  unfold lineV
  rw [h]
  dsimp only
  rw [cmdV, if_neg (by decide)]
  dsimp only
  obtain ⟨f, hf, _⟩ := form_word 16 (by omega)
  have e : cmdW (wP bFall).f0 r = (⟨2, 0, 0, (stepsV [110] (st0 17) r false).1, ⟨#[]⟩⟩, (stepsV [110] (st0 17) r false).2) := by
    obtain ⟨g1, g2, g3, g4, _⟩ := word_good ⟨16, by omega⟩
    dsimp only at g1 g2 g3 g4
    rw [show (wP bFall).f0 = wordOf (16 + 1) from fall_word.symm]
    unfold cmdW
    rw [if_neg g1, if_neg g2, if_neg g3, if_neg g4, cmdUp_ge 16 (by omega) f hf _ 18 (by omega) (by omega)]
    dsimp only
    have e2 : script_formOf.f ((16 + 1 : Nat) : Int) = some (wordOf 17, bs [110]) := by decide +kernel
    rw [e2] at hf
    simp only [Option.some.injEq, Prod.mk.injEq, true_and] at hf
    subst hf
    rw [zbf]
    rfl
  rw [e]
  have e3 : (stepsV [110] (st0 17) r false).2 = (numN r false).2 := rfl
  rw [e3]
  simp
theorem no_nl (s : List UInt8) (h : ∀ c ∈ s, c ≠ 10) : zaq s = [s] := by
  induction s with
  | nil => rfl
  | cons c s ih =>
    rw [zaq, if_neg (h c List.mem_cons_self), ih (fun d hd => h d (List.mem_cons_of_mem _ hd))]
theorem longV_one {s : List UInt8} (h : ∀ c ∈ s, c ≠ 10) (h0 : s ≠ []) (hl : s.length ≤ 8192) : longV s = false := by
  unfold longV
  rw [no_nl s h]
  have e : dropE [s] = [s] := by unfold dropE; rw [if_neg (by simpa using h0)]
  rw [e]
  simp
  omega
/-- one line -/
theorem parse_one {s : List UInt8} (h : ∀ c ∈ s, c ≠ 10) (h0 : s ≠ []) (h35 : s.head? ≠ some 35) (hl : s.length ≤ 8192) : zax s = if (lineV s).2 = true then ([(lineV s).1], 0) else ([], 110) := by
  unfold zax
  rw [longV_one h h0 hl, if_neg (by simp), no_nl s h, parseG, if_neg (by simp [h0, h35])]
  split
  · rfl
  · rfl
theorem words_tail (s : List UInt8) (h : ∀ c ∈ s, c ≠ 32) (h0 : s ≠ []) (h34 : s.head? ≠ some 34) (n : Nat) : wordsL (n + 1) s = ([⟨bs s, false⟩], true) := by
  have := words_step n ⟨bs s, false⟩ (.inr ⟨by rw [zbf]; exact h0, by rw [zbf]; exact h, by rw [zbf]; exact h34⟩) [] (.inl rfl)
  unfold tokT at this
  rw [if_neg (by simp), zbf, List.append_nil] at this
  rw [this]; rfl
theorem words_fall (n : Nat) (b : List UInt8) : wordsL (n + 1) (bFall ++ 32 :: b) = if (wordsL n b).2 = true then (wP bFall :: (wordsL n b).1, true) else ([], false) := by
  have := words_step n (wP bFall) (ok_wd (by decide) (by decide)) (32 :: b) (.inr ⟨_, rfl⟩)
  rw [tokT_wP] at this
  rw [this, aftW, if_pos rfl]
theorem fall_one (s : List UInt8) (h : ∀ c ∈ s, c ≠ 32) (h0 : s ≠ []) (h34 : s.head? ≠ some 34) : wordsV (bFall ++ 32 :: s) = (wP bFall :: [⟨bs s, false⟩], true) := by
  unfold wordsV
  rw [words_fall, show (bFall ++ 32 :: s).length = (s.length + 4) + 1 from by simp [bFall], words_tail s h h0 h34, if_pos rfl]
/-- one number's word that is none -/
theorem fall_bad (s : List UInt8) (h : ∀ c ∈ s, c ≠ 32) (h0 : s ≠ []) (h34 : s.head? ≠ some 34) (hb : ∀ m, I64 m → s ≠ Lib.itoa m) : (lineV (bFall ++ 32 :: s)).2 = false := by
  rw [fall_line _ _ (fall_one s h h0 h34)]
  have hn : (numV ⟨bs s, false⟩).2 = false := by
    rw [Bool.eq_false_iff]
    intro hc
    obtain ⟨_, h2, h3⟩ := numV_ok hc
    exact hb _ h3 (bs_inj h2)
  unfold numN
  rw [nextV_hit [] false (show (⟨bs s, false⟩ : S88).f1 = false from rfl)]
  dsimp only
  rw [hn]
  rfl
end Go.Proofs.YtdmlgligljagoaaDoor

namespace Go.Proofs.YtdmlgligljagoaaDoor.PS
open Go.RowKit Go.Proofs.YtdmlgligljagoaaDoorW.PrintWords Go.Proofs.YtdmlgligljagoaaDoorW.PrintLast Go.Proofs.YtdmlgligljagoaaDoorW.PrintMore
attribute [local go_sem] zbi zbj max_two min_two zbg zbh zbk zbl   -- for this text's walks alone
set_option linter.unusedVariables false
set_option linter.unusedSimpArgs false

/-! ### cofferlaw22_first: function 16 -/
def cofferlaw22_first.j0 : Nat → List (S36) → Bool → Option (Bool)
 | 0, _, _ => none
 | k + 1, x1, x58 => if x58 = true then (some false) else ((cofferlaw22_told.f k x1).bind fun t237 => ((cofferref22_Same.f t237 (([(⟨2, 0, 0, (⟨1, (⟨#[97]⟩ : ByteArray), (⟨#[]⟩ : ByteArray), (⟨#[]⟩ : ByteArray), ([] : List (S38)), 0, 0, ([] : List Int)⟩ : S55), (⟨#[]⟩ : ByteArray)⟩ : S57), (⟨2, 0, 0, (⟨3, (⟨#[97]⟩ : ByteArray), (⟨#[107]⟩ : ByteArray), (⟨#[100]⟩ : ByteArray), (([(⟨(⟨#[116]⟩ : ByteArray), (⟨#[120]⟩ : ByteArray)⟩ : S38)] : List (S38))), 0, 0, ([] : List Int)⟩ : S55), (⟨#[]⟩ : ByteArray)⟩ : S57), (⟨2, 0, 0, (⟨18, (⟨#[]⟩ : ByteArray), (⟨#[]⟩ : ByteArray), (⟨#[]⟩ : ByteArray), ([] : List (S38)), 0, 3, (([0, 2] : List Int))⟩ : S55), (⟨#[]⟩ : ByteArray)⟩ : S57)] : List (S57)))).bind fun t240 => (if t240 = true then (some true) else (some false))))
def cofferlaw22_first.f (k : Nat)  : Option (Bool) := (script_Parse.f k (⟨#[109, 97, 107, 101, 32, 34, 97, 34, 10, 112, 117, 116, 32, 34, 97, 34, 32, 34, 107, 34, 32, 34, 100, 34, 32, 34, 116, 34, 32, 34, 120, 34, 10, 35, 10, 99, 114, 97, 115, 104, 32, 51, 32, 48, 32, 50]⟩ : ByteArray)).bind fun bt209 => ((script_Parse.f k (⟨#[102, 97, 108, 108, 32, 48, 51]⟩ : ByteArray)).bind fun bt213 => ((script_Print.f (([(⟨2, 0, 0, (⟨17, (⟨#[]⟩ : ByteArray), (⟨#[]⟩ : ByteArray), (⟨#[]⟩ : ByteArray), ([] : List (S38)), 0, (-1), ([] : List Int)⟩ : S34), (⟨#[]⟩ : ByteArray)⟩ : S36), (⟨4, 0, 0, (⟨0, (⟨#[]⟩ : ByteArray), (⟨#[]⟩ : ByteArray), (⟨#[]⟩ : ByteArray), ([] : List (S38)), 0, 0, ([] : List Int)⟩ : S34), (⟨#[]⟩ : ByteArray)⟩ : S36)] : List (S36)))).bind fun bt220 => ((script_Print.f (([(⟨6, 0, 0, (⟨0, (⟨#[]⟩ : ByteArray), (⟨#[]⟩ : ByteArray), (⟨#[]⟩ : ByteArray), ([] : List (S38)), 0, 0, ([] : List Int)⟩ : S34), (⟨#[]⟩ : ByteArray)⟩ : S36)] : List (S36)))).bind fun bt225 => (if bt209.2 = 0 then (if bt213.2 = 110 then (if bt220.2 = 0 then (if bt220.1.toList = ([102, 97, 108, 108, 32, 45, 49, 10, 100, 105, 103, 101, 115, 116, 10] : List UInt8) then (if bt225.2 = 110 then (if (bt209.1.length : Int) = 3 then ((script_Quote.f k (⟨#[0, 34, 97]⟩ : ByteArray)).bind fun t227 => (cofferlaw22_first.j0 k bt209.1 (t227.toList != ([34, 92, 120, 48, 48, 92, 34, 97, 34] : List UInt8)))) else (cofferlaw22_first.j0 k bt209.1 true)) else (cofferlaw22_first.j0 k bt209.1 true)) else (cofferlaw22_first.j0 k bt209.1 true)) else (cofferlaw22_first.j0 k bt209.1 true)) else (cofferlaw22_first.j0 k bt209.1 true)) else (cofferlaw22_first.j0 k bt209.1 true)))))
theorem cofferlaw22_first.mono_l : ∀ k, (∀ y0 y1, LeO (cofferlaw22_first.j0 k y0 y1) (cofferlaw22_first.j0 (k + 1) y0 y1))
 | 0 => fun _ _ r h => by simp [cofferlaw22_first.j0] at h
 | k + 1 => by
  have ih0 := cofferlaw22_first.mono_l k
  ·
   intro y0 y1
   unfold cofferlaw22_first.j0
   repeat' first
   | (with_reducible exact ih0 _ _)
   | (with_reducible exact cofferlaw22_told.mono _ _)
   | (with_reducible exact script_Parse.mono _ _)
   | (with_reducible exact script_Quote.mono _ _)
   | (with_reducible exact LeO.refl _)
   | (with_reducible exact LeO.none _)
   | (with_reducible refine LeO.ite ?_ ?_)
   | (with_reducible refine LeO.bind ?_ (fun _ => ?_))
   | exact ih0 _ _
   | exact cofferlaw22_told.mono _ _
   | exact script_Parse.mono _ _
   | exact script_Quote.mono _ _
   | exact LeO.none _
   | refine LeO.ite ?_ ?_
   | refine LeO.bind ?_ (fun _ => ?_)
theorem cofferlaw22_first.mono : ∀ k, LeO (cofferlaw22_first.f k ) (cofferlaw22_first.f (k + 1) ) := by
 intro  k
 have ih0 := cofferlaw22_first.mono_l k
 unfold cofferlaw22_first.f
 repeat' first
   | (with_reducible exact ih0 _ _)
   | (with_reducible exact cofferlaw22_told.mono _ _)
   | (with_reducible exact script_Parse.mono _ _)
   | (with_reducible exact script_Quote.mono _ _)
   | (with_reducible exact LeO.refl _)
   | (with_reducible exact LeO.none _)
   | (with_reducible refine LeO.ite ?_ ?_)
   | (with_reducible refine LeO.bind ?_ (fun _ => ?_))
   | exact ih0 _ _
   | exact cofferlaw22_told.mono _ _
   | exact script_Parse.mono _ _
   | exact script_Quote.mono _ _
   | exact LeO.none _
   | refine LeO.ite ?_ ?_
   | refine LeO.bind ?_ (fun _ => ?_)
set_option maxHeartbeats 8000000 in
set_option maxRecDepth 100000 in
theorem cofferlaw22_first.calls (k : Nat)  (r : Bool) (w : World) (hT : Tab w) (h : cofferlaw22_first.f k  = some r) :
  Calls Tryd.prog 16 #[] w fun e w' => e = .returned (.bool r) ∧ Below w.heap.size w w' := by
 have hu34 := Tryd.underlying34
 have hu36 := Tryd.underlying36
 have hu55 := Tryd.underlying55
 have hu57 := Tryd.underlying57
 have hu38 := Tryd.underlying38
 have HB := Aside0.mk (Below.refl w.heap.size w)
 have HT := Aside0.mk hT
 clear hT
 have H : ((script_Parse.f k (⟨#[109, 97, 107, 101, 32, 34, 97, 34, 10, 112, 117, 116, 32, 34, 97, 34, 32, 34, 107, 34, 32, 34, 100, 34, 32, 34, 116, 34, 32, 34, 120, 34, 10, 35, 10, 99, 114, 97, 115, 104, 32, 51, 32, 48, 32, 50]⟩ : ByteArray)).bind fun bt209 => ((script_Parse.f k (⟨#[102, 97, 108, 108, 32, 48, 51]⟩ : ByteArray)).bind fun bt213 => ((script_Print.f (([(⟨2, 0, 0, (⟨17, (⟨#[]⟩ : ByteArray), (⟨#[]⟩ : ByteArray), (⟨#[]⟩ : ByteArray), ([] : List (S38)), 0, (-1), ([] : List Int)⟩ : S34), (⟨#[]⟩ : ByteArray)⟩ : S36), (⟨4, 0, 0, (⟨0, (⟨#[]⟩ : ByteArray), (⟨#[]⟩ : ByteArray), (⟨#[]⟩ : ByteArray), ([] : List (S38)), 0, 0, ([] : List Int)⟩ : S34), (⟨#[]⟩ : ByteArray)⟩ : S36)] : List (S36)))).bind fun bt220 => ((script_Print.f (([(⟨6, 0, 0, (⟨0, (⟨#[]⟩ : ByteArray), (⟨#[]⟩ : ByteArray), (⟨#[]⟩ : ByteArray), ([] : List (S38)), 0, 0, ([] : List Int)⟩ : S34), (⟨#[]⟩ : ByteArray)⟩ : S36)] : List (S36)))).bind fun bt225 => (if bt209.2 = 0 then (if bt213.2 = 110 then (if bt220.2 = 0 then (if bt220.1.toList = ([102, 97, 108, 108, 32, 45, 49, 10, 100, 105, 103, 101, 115, 116, 10] : List UInt8) then (if bt225.2 = 110 then (if (bt209.1.length : Int) = 3 then ((script_Quote.f k (⟨#[0, 34, 97]⟩ : ByteArray)).bind fun t227 => (cofferlaw22_first.j0 k bt209.1 (t227.toList != ([34, 92, 120, 48, 48, 92, 34, 97, 34] : List UInt8)))) else (cofferlaw22_first.j0 k bt209.1 true)) else (cofferlaw22_first.j0 k bt209.1 true)) else (cofferlaw22_first.j0 k bt209.1 true)) else (cofferlaw22_first.j0 k bt209.1 true)) else (cofferlaw22_first.j0 k bt209.1 true)) else (cofferlaw22_first.j0 k bt209.1 true)))))) = some r := h
 clear h
 replace H := Option.bind_eq_some_iff.mp H
 obtain ⟨⟨t209, t210⟩, A10, H⟩ := H
 replace H : ((script_Parse.f k (⟨#[102, 97, 108, 108, 32, 48, 51]⟩ : ByteArray)).bind fun bt213 => ((script_Print.f (([(⟨2, 0, 0, (⟨17, (⟨#[]⟩ : ByteArray), (⟨#[]⟩ : ByteArray), (⟨#[]⟩ : ByteArray), ([] : List (S38)), 0, (-1), ([] : List Int)⟩ : S34), (⟨#[]⟩ : ByteArray)⟩ : S36), (⟨4, 0, 0, (⟨0, (⟨#[]⟩ : ByteArray), (⟨#[]⟩ : ByteArray), (⟨#[]⟩ : ByteArray), ([] : List (S38)), 0, 0, ([] : List Int)⟩ : S34), (⟨#[]⟩ : ByteArray)⟩ : S36)] : List (S36)))).bind fun bt220 => ((script_Print.f (([(⟨6, 0, 0, (⟨0, (⟨#[]⟩ : ByteArray), (⟨#[]⟩ : ByteArray), (⟨#[]⟩ : ByteArray), ([] : List (S38)), 0, 0, ([] : List Int)⟩ : S34), (⟨#[]⟩ : ByteArray)⟩ : S36)] : List (S36)))).bind fun bt225 => (if t210 = 0 then (if bt213.2 = 110 then (if bt220.2 = 0 then (if bt220.1.toList = ([102, 97, 108, 108, 32, 45, 49, 10, 100, 105, 103, 101, 115, 116, 10] : List UInt8) then (if bt225.2 = 110 then (if (t209.length : Int) = 3 then ((script_Quote.f k (⟨#[0, 34, 97]⟩ : ByteArray)).bind fun t227 => (cofferlaw22_first.j0 k t209 (t227.toList != ([34, 92, 120, 48, 48, 92, 34, 97, 34] : List UInt8)))) else (cofferlaw22_first.j0 k t209 true)) else (cofferlaw22_first.j0 k t209 true)) else (cofferlaw22_first.j0 k t209 true)) else (cofferlaw22_first.j0 k t209 true)) else (cofferlaw22_first.j0 k t209 true)) else (cofferlaw22_first.j0 k t209 true))))) = some r := H
 have A1 := Aside0.mk A10
 clear A10
 replace H := Option.bind_eq_some_iff.mp H
 obtain ⟨⟨t213, t214⟩, A20, H⟩ := H
 replace H : ((script_Print.f (([(⟨2, 0, 0, (⟨17, (⟨#[]⟩ : ByteArray), (⟨#[]⟩ : ByteArray), (⟨#[]⟩ : ByteArray), ([] : List (S38)), 0, (-1), ([] : List Int)⟩ : S34), (⟨#[]⟩ : ByteArray)⟩ : S36), (⟨4, 0, 0, (⟨0, (⟨#[]⟩ : ByteArray), (⟨#[]⟩ : ByteArray), (⟨#[]⟩ : ByteArray), ([] : List (S38)), 0, 0, ([] : List Int)⟩ : S34), (⟨#[]⟩ : ByteArray)⟩ : S36)] : List (S36)))).bind fun bt220 => ((script_Print.f (([(⟨6, 0, 0, (⟨0, (⟨#[]⟩ : ByteArray), (⟨#[]⟩ : ByteArray), (⟨#[]⟩ : ByteArray), ([] : List (S38)), 0, 0, ([] : List Int)⟩ : S34), (⟨#[]⟩ : ByteArray)⟩ : S36)] : List (S36)))).bind fun bt225 => (if t210 = 0 then (if t214 = 110 then (if bt220.2 = 0 then (if bt220.1.toList = ([102, 97, 108, 108, 32, 45, 49, 10, 100, 105, 103, 101, 115, 116, 10] : List UInt8) then (if bt225.2 = 110 then (if (t209.length : Int) = 3 then ((script_Quote.f k (⟨#[0, 34, 97]⟩ : ByteArray)).bind fun t227 => (cofferlaw22_first.j0 k t209 (t227.toList != ([34, 92, 120, 48, 48, 92, 34, 97, 34] : List UInt8)))) else (cofferlaw22_first.j0 k t209 true)) else (cofferlaw22_first.j0 k t209 true)) else (cofferlaw22_first.j0 k t209 true)) else (cofferlaw22_first.j0 k t209 true)) else (cofferlaw22_first.j0 k t209 true)) else (cofferlaw22_first.j0 k t209 true)))) = some r := H
 have A2 := Aside0.mk A20
 clear A20
 obtain ⟨y217, hy217⟩ : ∃ y_ : List (S36), y_ = (([(⟨2, 0, 0, (⟨17, (⟨#[]⟩ : ByteArray), (⟨#[]⟩ : ByteArray), (⟨#[]⟩ : ByteArray), ([] : List (S38)), 0, (-1), ([] : List Int)⟩ : S34), (⟨#[]⟩ : ByteArray)⟩ : S36), (⟨4, 0, 0, (⟨0, (⟨#[]⟩ : ByteArray), (⟨#[]⟩ : ByteArray), (⟨#[]⟩ : ByteArray), ([] : List (S38)), 0, 0, ([] : List Int)⟩ : S34), (⟨#[]⟩ : ByteArray)⟩ : S36)] : List (S36))) := ⟨_, rfl⟩
 replace H : ((script_Print.f y217).bind fun bt220 => ((script_Print.f (([(⟨6, 0, 0, (⟨0, (⟨#[]⟩ : ByteArray), (⟨#[]⟩ : ByteArray), (⟨#[]⟩ : ByteArray), ([] : List (S38)), 0, 0, ([] : List Int)⟩ : S34), (⟨#[]⟩ : ByteArray)⟩ : S36)] : List (S36)))).bind fun bt225 => (if t210 = 0 then (if t214 = 110 then (if bt220.2 = 0 then (if bt220.1.toList = ([102, 97, 108, 108, 32, 45, 49, 10, 100, 105, 103, 101, 115, 116, 10] : List UInt8) then (if bt225.2 = 110 then (if (t209.length : Int) = 3 then ((script_Quote.f k (⟨#[0, 34, 97]⟩ : ByteArray)).bind fun t227 => (cofferlaw22_first.j0 k t209 (t227.toList != ([34, 92, 120, 48, 48, 92, 34, 97, 34] : List UInt8)))) else (cofferlaw22_first.j0 k t209 true)) else (cofferlaw22_first.j0 k t209 true)) else (cofferlaw22_first.j0 k t209 true)) else (cofferlaw22_first.j0 k t209 true)) else (cofferlaw22_first.j0 k t209 true)) else (cofferlaw22_first.j0 k t209 true)))) = some r := by first | (rw [hy217]; with_reducible exact H) | (have H2_ := (Option.bind_some _ _).symm.trans H; rw [hy217]; with_reducible exact H2_) | (have H2_ := (Option.bind_some _ _).symm.trans H; with_reducible exact H2_) | with_reducible exact H | (rw [hy217]; exact H) | exact H
 have Ny217 := Aside0.mk hy217
 clear hy217
 replace H := Option.bind_eq_some_iff.mp H
 obtain ⟨⟨t220, t221⟩, A30, H⟩ := H
 replace H : ((script_Print.f (([(⟨6, 0, 0, (⟨0, (⟨#[]⟩ : ByteArray), (⟨#[]⟩ : ByteArray), (⟨#[]⟩ : ByteArray), ([] : List (S38)), 0, 0, ([] : List Int)⟩ : S34), (⟨#[]⟩ : ByteArray)⟩ : S36)] : List (S36)))).bind fun bt225 => (if t210 = 0 then (if t214 = 110 then (if t221 = 0 then (if t220.toList = ([102, 97, 108, 108, 32, 45, 49, 10, 100, 105, 103, 101, 115, 116, 10] : List UInt8) then (if bt225.2 = 110 then (if (t209.length : Int) = 3 then ((script_Quote.f k (⟨#[0, 34, 97]⟩ : ByteArray)).bind fun t227 => (cofferlaw22_first.j0 k t209 (t227.toList != ([34, 92, 120, 48, 48, 92, 34, 97, 34] : List UInt8)))) else (cofferlaw22_first.j0 k t209 true)) else (cofferlaw22_first.j0 k t209 true)) else (cofferlaw22_first.j0 k t209 true)) else (cofferlaw22_first.j0 k t209 true)) else (cofferlaw22_first.j0 k t209 true)) else (cofferlaw22_first.j0 k t209 true))) = some r := H
 have A3 := Aside0.mk A30
 clear A30
 obtain ⟨y222, hy222⟩ : ∃ y_ : List (S36), y_ = (([(⟨6, 0, 0, (⟨0, (⟨#[]⟩ : ByteArray), (⟨#[]⟩ : ByteArray), (⟨#[]⟩ : ByteArray), ([] : List (S38)), 0, 0, ([] : List Int)⟩ : S34), (⟨#[]⟩ : ByteArray)⟩ : S36)] : List (S36))) := ⟨_, rfl⟩
 replace H : ((script_Print.f y222).bind fun bt225 => (if t210 = 0 then (if t214 = 110 then (if t221 = 0 then (if t220.toList = ([102, 97, 108, 108, 32, 45, 49, 10, 100, 105, 103, 101, 115, 116, 10] : List UInt8) then (if bt225.2 = 110 then (if (t209.length : Int) = 3 then ((script_Quote.f k (⟨#[0, 34, 97]⟩ : ByteArray)).bind fun t227 => (cofferlaw22_first.j0 k t209 (t227.toList != ([34, 92, 120, 48, 48, 92, 34, 97, 34] : List UInt8)))) else (cofferlaw22_first.j0 k t209 true)) else (cofferlaw22_first.j0 k t209 true)) else (cofferlaw22_first.j0 k t209 true)) else (cofferlaw22_first.j0 k t209 true)) else (cofferlaw22_first.j0 k t209 true)) else (cofferlaw22_first.j0 k t209 true))) = some r := by first | (rw [hy222]; with_reducible exact H) | (have H2_ := (Option.bind_some _ _).symm.trans H; rw [hy222]; with_reducible exact H2_) | (have H2_ := (Option.bind_some _ _).symm.trans H; with_reducible exact H2_) | with_reducible exact H | (rw [hy222]; exact H) | exact H
 have Ny222 := Aside0.mk hy222
 clear hy222
 replace H := Option.bind_eq_some_iff.mp H
 obtain ⟨⟨t225, t226⟩, A40, H⟩ := H
 replace H : (if t210 = 0 then (if t214 = 110 then (if t221 = 0 then (if t220.toList = ([102, 97, 108, 108, 32, 45, 49, 10, 100, 105, 103, 101, 115, 116, 10] : List UInt8) then (if t226 = 110 then (if (t209.length : Int) = 3 then ((script_Quote.f k (⟨#[0, 34, 97]⟩ : ByteArray)).bind fun t227 => (cofferlaw22_first.j0 k t209 (t227.toList != ([34, 92, 120, 48, 48, 92, 34, 97, 34] : List UInt8)))) else (cofferlaw22_first.j0 k t209 true)) else (cofferlaw22_first.j0 k t209 true)) else (cofferlaw22_first.j0 k t209 true)) else (cofferlaw22_first.j0 k t209 true)) else (cofferlaw22_first.j0 k t209 true)) else (cofferlaw22_first.j0 k t209 true)) = some r := H
 have A4 := Aside0.mk A40
 clear A40
 have HC5 := Aside0.mk H
 clear H
 go_enter Tryd.func16, Tryd.ntmps16
 go_upto_region 5 with (first | ((with_reducible refine zas (f := 18) rfl ?_); refine zba (some 11) rfl rfl Tryd.func18 (by kernel_rfl) rfl #[.string (⟨#[109, 97, 107, 101, 32, 34, 97, 34, 10, 112, 117, 116, 32, 34, 97, 34, 32, 34, 107, 34, 32, 34, 100, 34, 32, 34, 116, 34, 32, 34, 120, 34, 10, 35, 10, 99, 114, 97, 115, 104, 32, 51, 32, 48, 32, 50]⟩ : ByteArray)] rfl (by (try simp only [List.map_toArray, List.map_cons, List.map_nil]); first | done | rfl | (simp only [List.length_drop, List.length_take]; rfl)) ?_; (with_reducible refine (script_Parse.calls k (⟨#[109, 97, 107, 101, 32, 34, 97, 34, 10, 112, 117, 116, 32, 34, 97, 34, 32, 34, 107, 34, 32, 34, 100, 34, 32, 34, 116, 34, 32, 34, 120, 34, 10, 35, 10, 99, 114, 97, 115, 104, 32, 51, 32, 48, 32, 50]⟩ : ByteArray) t209 t210 _ ?side1 A1.out).mono ?_); (case side1 => exact zaz HT.out (by repeat (first | (with_reducible first | exact HB.out | apply zad | apply zab | apply zac) | exact HB.out))); rintro e w6 ⟨v211, rfl, ho0, hb⟩; refine ⟨_, rfl, ?_⟩; have n0_ := Aside0.mk (Kd.N_lower (Kd.N_mono (ok' := fun k_ => True) (Kd.S_N (Kd.S_bound ho0)) (fun k_ hk_ => trivial)) (zaj (by repeat (first | (with_reducible first | exact HB.out | apply zad | apply zab | apply zac) | exact HB.out)))); have n1_ := Aside0.mk (zan (by repeat (first | (with_reducible first | exact HB.out | apply zad | apply zab | apply zac) | exact HB.out)) hb); clear HB; have HO212 := n0_; have HB := n1_; clear n0_ n1_; (try clear hb); (try clear hb2); (try clear hk); (try clear hi); (try clear ho0)) | ((with_reducible refine zas (f := 18) rfl ?_); refine zba (some 15) rfl rfl Tryd.func18 (by kernel_rfl) rfl #[.string (⟨#[102, 97, 108, 108, 32, 48, 51]⟩ : ByteArray)] rfl (by (try simp only [List.map_toArray, List.map_cons, List.map_nil]); first | done | rfl | (simp only [List.length_drop, List.length_take]; rfl)) ?_; (with_reducible refine (script_Parse.calls k (⟨#[102, 97, 108, 108, 32, 48, 51]⟩ : ByteArray) t213 t214 _ ?side1 A2.out).mono ?_); (case side1 => exact zaz HT.out (by repeat (first | (with_reducible first | exact HB.out | apply zad | apply zab | apply zac) | exact HB.out))); rintro e w7 ⟨v215, rfl, ho0, hb⟩; refine ⟨_, rfl, ?_⟩; have n0_ := Aside0.mk (Kd.N_elder' (by (with_reducible repeat (first | apply Kd.N_alloc | apply Kd.N_drewN | apply Kd.N_drew)); exact HO212.out) (Kd.N_base (Kd.S_N ho0)) hb); have n1_ := Aside0.mk (Kd.N_lower (Kd.N_mono (ok' := fun k_ => some k_ ≠ (v211 : Value).ownBlock) (Kd.S_N (Kd.S_bound ho0)) (fun k_ hk_ => (Kd.fresh' (Kd.N_lt (by (with_reducible repeat (first | apply Kd.N_alloc | apply Kd.N_drewN | apply Kd.N_drew)); exact HO212.out)) k_ hk_.2.1))) (zaj (by repeat (first | (with_reducible first | exact HB.out | apply zad | apply zab | apply zac) | exact HB.out)))); have n2_ := Aside0.mk (zan (by repeat (first | (with_reducible first | exact HB.out | apply zad | apply zab | apply zac) | exact HB.out)) hb); clear HO212; clear HB; have HO212 := n0_; have HO216 := n1_; have HB := n2_; clear n0_ n1_ n2_; (try clear hb); (try clear hb2); (try clear hk); (try clear hi); (try clear ho0)) | ((with_reducible refine zau (N := 22) rfl ?_); (try (refine zbn (by rfl) ?_; dsimp only)); refine Kd.N_lit k36 _ 36 ?hg (N' := 22) ?hd (xs := ([(⟨2, 0, 0, (⟨17, (⟨#[]⟩ : ByteArray), (⟨#[]⟩ : ByteArray), (⟨#[]⟩ : ByteArray), ([] : List (S38)), 0, (-1), ([] : List Int)⟩ : S34), (⟨#[]⟩ : ByteArray)⟩ : S36), (⟨4, 0, 0, (⟨0, (⟨#[]⟩ : ByteArray), (⟨#[]⟩ : ByteArray), (⟨#[]⟩ : ByteArray), ([] : List (S38)), 0, 0, ([] : List Int)⟩ : S34), (⟨#[]⟩ : ByteArray)⟩ : S36)] : List (S36))) (inner := [.int .i64 2, .int .i64 0, .int .i64 0, .int .i64 17, .string (⟨#[]⟩ : ByteArray), .string (⟨#[]⟩ : ByteArray), .string (⟨#[]⟩ : ByteArray), .slice none 0 0, .int .i64 0, .int .i64 (-1), .slice none 0 0, .string (⟨#[]⟩ : ByteArray), .int .i64 4, .int .i64 0, .int .i64 0, .int .i64 0, .string (⟨#[]⟩ : ByteArray), .string (⟨#[]⟩ : ByteArray), .string (⟨#[]⟩ : ByteArray), .slice none 0 0, .int .i64 0, .int .i64 0, .slice none 0 0, .string (⟨#[]⟩ : ByteArray)]) (ok := (fun k_ => some k_ ≠ (v211 : Value).ownBlock ∧ some k_ ≠ (v215 : Value).ownBlock)) (okp := (fun k_ => some k_ ≠ (v211 : Value).ownBlock ∧ some k_ ≠ (v215 : Value).ownBlock)) ?hr ?hp (fun _ hk => hk) ((show ∀ k_, w7.heap.size ≤ k_ → (fun k_ => some k_ ≠ (v211 : Value).ownBlock ∧ some k_ ≠ (v215 : Value).ownBlock) k_ from fun k_ hk => ⟨Kd.fresh' (Kd.N_lt (by (with_reducible repeat (first | apply Kd.N_alloc | apply Kd.N_drewN | apply Kd.N_drew)); exact HO212.out)) k_ hk, Kd.fresh' (Kd.N_lt (by (with_reducible repeat (first | apply Kd.N_alloc | apply Kd.N_drewN | apply Kd.N_drew)); exact HO216.out)) k_ hk⟩) _ (Nat.le_refl _)) (Below.refl _ _) (Nat.le_refl _) (by simp) ?_; (case hd => rfl); (case hg => rfl); (case hr => first | (go_simp; done) | (go_simp; rfl)); (case hp => exact (Reps.front (show Kd.FK k36 _ _ (⟨2, 0, 0, (⟨17, (⟨#[]⟩ : ByteArray), (⟨#[]⟩ : ByteArray), (⟨#[]⟩ : ByteArray), ([] : List (S38)), 0, (-1), ([] : List Int)⟩ : S34), (⟨#[]⟩ : ByteArray)⟩ : S36) [.int .i64 2, .int .i64 0, .int .i64 0, .int .i64 17, .string (⟨#[]⟩ : ByteArray), .string (⟨#[]⟩ : ByteArray), .string (⟨#[]⟩ : ByteArray), .slice none 0 0, .int .i64 0, .int .i64 (-1), .slice none 0 0, .string (⟨#[]⟩ : ByteArray)] from (k36_mkF _ _ (⟨2, 0, 0, (⟨17, (⟨#[]⟩ : ByteArray), (⟨#[]⟩ : ByteArray), (⟨#[]⟩ : ByteArray), ([] : List (S38)), 0, (-1), ([] : List Int)⟩ : S34), (⟨#[]⟩ : ByteArray)⟩ : S36) (Nat.le_refl _) (Kd.F_nil _ _ _) (Nat.le_refl _) (Kd.F_nil _ _ _))) rfl (Reps.front (show Kd.FK k36 _ _ (⟨4, 0, 0, (⟨0, (⟨#[]⟩ : ByteArray), (⟨#[]⟩ : ByteArray), (⟨#[]⟩ : ByteArray), ([] : List (S38)), 0, 0, ([] : List Int)⟩ : S34), (⟨#[]⟩ : ByteArray)⟩ : S36) [.int .i64 4, .int .i64 0, .int .i64 0, .int .i64 0, .string (⟨#[]⟩ : ByteArray), .string (⟨#[]⟩ : ByteArray), .string (⟨#[]⟩ : ByteArray), .slice none 0 0, .int .i64 0, .int .i64 0, .slice none 0 0, .string (⟨#[]⟩ : ByteArray)] from (k36_mkF _ _ (⟨4, 0, 0, (⟨0, (⟨#[]⟩ : ByteArray), (⟨#[]⟩ : ByteArray), (⟨#[]⟩ : ByteArray), ([] : List (S38)), 0, 0, ([] : List Int)⟩ : S34), (⟨#[]⟩ : ByteArray)⟩ : S36) (Nat.le_refl _) (Kd.F_nil _ _ _) (Nat.le_refl _) (Kd.F_nil _ _ _))) rfl (Reps.none _ _) rfl) rfl)); intro v218 w8 ho9 hb hg_ hnew_; clear hg_ hnew_; (first | rw [← Ny217.out] at ho9 | (simp only [Int.reduceToNat] at ho9; rw [← Ny217.out] at ho9)); have n0_ := Aside0.mk (Kd.N_elder' (by (with_reducible repeat (first | apply Kd.N_alloc | apply Kd.N_drewN | apply Kd.N_drew)); exact HO212.out) (Kd.N_base ho9) hb); have n1_ := Aside0.mk (Kd.N_elder' (by (with_reducible repeat (first | apply Kd.N_alloc | apply Kd.N_drewN | apply Kd.N_drew)); exact HO216.out) (Kd.N_base ho9) hb); have n2_ := Aside0.mk (Kd.N_lower ho9 (zaj (by repeat (first | (with_reducible first | exact HB.out | apply zad | apply zab | apply zac) | exact HB.out)))); have n3_ := Aside0.mk (zan (by repeat (first | (with_reducible first | exact HB.out | apply zad | apply zab | apply zac) | exact HB.out)) hb); clear HO212; clear HO216; clear HB; have HO212 := n0_; have HO216 := n1_; have HO219 := n2_; have HB := n3_; clear n0_ n1_ n2_ n3_; clear hb ho9; obtain ⟨Ao10, co10, eo10⟩ := Kd.N_slice HO219.out; subst eo10) | ((with_reducible refine zas (f := 10) rfl ?_); refine zba (some 23) rfl rfl Tryd.func10 (by kernel_rfl) rfl #[.slice Ao10 y217.length co10] rfl (by (try simp only [List.map_toArray, List.map_cons, List.map_nil]); first | done | rfl | (simp only [List.length_drop, List.length_take]; rfl)) ?_; (with_reducible refine (script_Print.calls _ _ y217 t220 t221 _ ?side1 ?side2 ?side3 A3.out).mono ?_); (case side1 => repeat (first | exact (Kd.N_reads' HO219.out).2.2 | (with_reducible refine Kd.C_alloc ?_ _) | (with_reducible refine Kd.C_drewN ?_ _) | (with_reducible refine Kd.C_drew ?_))); (case side2 => exact (Kd.N_reads' HO219.out).2.1); (case side3 => exact zaz HT.out (by repeat (first | (with_reducible first | exact HB.out | apply zad | apply zab | apply zac) | exact HB.out))); rintro e w11 ⟨rfl, hb⟩; refine ⟨_, rfl, ?_⟩; have n0_ := Aside0.mk (Kd.N_below (by (with_reducible repeat (first | apply Kd.N_alloc | apply Kd.N_drewN | apply Kd.N_drew)); exact HO212.out) hb); have n1_ := Aside0.mk (Kd.N_below (by (with_reducible repeat (first | apply Kd.N_alloc | apply Kd.N_drewN | apply Kd.N_drew)); exact HO216.out) hb); have n2_ := Aside0.mk (Kd.N_below (by (with_reducible repeat (first | apply Kd.N_alloc | apply Kd.N_drewN | apply Kd.N_drew)); exact HO219.out) hb); have n3_ := Aside0.mk (zan (by repeat (first | (with_reducible first | exact HB.out | apply zad | apply zab | apply zac) | exact HB.out)) hb); clear HO212; clear HO216; clear HO219; clear HB; have HO212 := n0_; have HO216 := n1_; have HO219 := n2_; have HB := n3_; clear n0_ n1_ n2_ n3_; (try clear hb); (try clear hb2); (try clear hk); (try clear hi)) | ((with_reducible refine zau (N := 28) rfl ?_); (try (refine zbn (by rfl) ?_; dsimp only)); refine Kd.N_lit k36 _ 36 ?hg (N' := 28) ?hd (xs := ([(⟨6, 0, 0, (⟨0, (⟨#[]⟩ : ByteArray), (⟨#[]⟩ : ByteArray), (⟨#[]⟩ : ByteArray), ([] : List (S38)), 0, 0, ([] : List Int)⟩ : S34), (⟨#[]⟩ : ByteArray)⟩ : S36)] : List (S36))) (inner := [.int .i64 6, .int .i64 0, .int .i64 0, .int .i64 0, .string (⟨#[]⟩ : ByteArray), .string (⟨#[]⟩ : ByteArray), .string (⟨#[]⟩ : ByteArray), .slice none 0 0, .int .i64 0, .int .i64 0, .slice none 0 0, .string (⟨#[]⟩ : ByteArray)]) (ok := (fun k_ => some k_ ≠ (v211 : Value).ownBlock ∧ some k_ ≠ (v215 : Value).ownBlock ∧ some k_ ≠ (.slice Ao10 y217.length co10 : Value).ownBlock)) (okp := (fun k_ => some k_ ≠ (v211 : Value).ownBlock ∧ some k_ ≠ (v215 : Value).ownBlock ∧ some k_ ≠ (.slice Ao10 y217.length co10 : Value).ownBlock)) ?hr ?hp (fun _ hk => hk) ((show ∀ k_, w11.heap.size ≤ k_ → (fun k_ => some k_ ≠ (v211 : Value).ownBlock ∧ some k_ ≠ (v215 : Value).ownBlock ∧ some k_ ≠ (.slice Ao10 y217.length co10 : Value).ownBlock) k_ from fun k_ hk => ⟨Kd.fresh' (Kd.N_lt (by (with_reducible repeat (first | apply Kd.N_alloc | apply Kd.N_drewN | apply Kd.N_drew)); exact HO212.out)) k_ hk, Kd.fresh' (Kd.N_lt (by (with_reducible repeat (first | apply Kd.N_alloc | apply Kd.N_drewN | apply Kd.N_drew)); exact HO216.out)) k_ hk, Kd.fresh' (Kd.N_lt (by (with_reducible repeat (first | apply Kd.N_alloc | apply Kd.N_drewN | apply Kd.N_drew)); exact HO219.out)) k_ hk⟩) _ (Nat.le_refl _)) (Below.refl _ _) (Nat.le_refl _) (by simp) ?_; (case hd => rfl); (case hg => rfl); (case hr => first | (go_simp; done) | (go_simp; rfl)); (case hp => exact (Reps.front (show Kd.FK k36 _ _ (⟨6, 0, 0, (⟨0, (⟨#[]⟩ : ByteArray), (⟨#[]⟩ : ByteArray), (⟨#[]⟩ : ByteArray), ([] : List (S38)), 0, 0, ([] : List Int)⟩ : S34), (⟨#[]⟩ : ByteArray)⟩ : S36) [.int .i64 6, .int .i64 0, .int .i64 0, .int .i64 0, .string (⟨#[]⟩ : ByteArray), .string (⟨#[]⟩ : ByteArray), .string (⟨#[]⟩ : ByteArray), .slice none 0 0, .int .i64 0, .int .i64 0, .slice none 0 0, .string (⟨#[]⟩ : ByteArray)] from (k36_mkF _ _ (⟨6, 0, 0, (⟨0, (⟨#[]⟩ : ByteArray), (⟨#[]⟩ : ByteArray), (⟨#[]⟩ : ByteArray), ([] : List (S38)), 0, 0, ([] : List Int)⟩ : S34), (⟨#[]⟩ : ByteArray)⟩ : S36) (Nat.le_refl _) (Kd.F_nil _ _ _) (Nat.le_refl _) (Kd.F_nil _ _ _))) rfl (Reps.none _ _) rfl)); intro v223 w12 ho13 hb hg_ hnew_; clear hg_ hnew_; (first | rw [← Ny222.out] at ho13 | (simp only [Int.reduceToNat] at ho13; rw [← Ny222.out] at ho13)); have n0_ := Aside0.mk (Kd.N_elder' (by (with_reducible repeat (first | apply Kd.N_alloc | apply Kd.N_drewN | apply Kd.N_drew)); exact HO212.out) (Kd.N_base ho13) hb); have n1_ := Aside0.mk (Kd.N_elder' (by (with_reducible repeat (first | apply Kd.N_alloc | apply Kd.N_drewN | apply Kd.N_drew)); exact HO216.out) (Kd.N_base ho13) hb); have n2_ := Aside0.mk (Kd.N_elder' (by (with_reducible repeat (first | apply Kd.N_alloc | apply Kd.N_drewN | apply Kd.N_drew)); exact HO219.out) (Kd.N_base ho13) hb); have n3_ := Aside0.mk (Kd.N_lower ho13 (zaj (by repeat (first | (with_reducible first | exact HB.out | apply zad | apply zab | apply zac) | exact HB.out)))); have n4_ := Aside0.mk (zan (by repeat (first | (with_reducible first | exact HB.out | apply zad | apply zab | apply zac) | exact HB.out)) hb); clear HO212; clear HO216; clear HO219; clear HB; have HO212 := n0_; have HO216 := n1_; have HO219 := n2_; have HO224 := n3_; have HB := n4_; clear n0_ n1_ n2_ n3_ n4_; clear hb ho13; obtain ⟨Ao14, co14, eo14⟩ := Kd.N_slice HO224.out; subst eo14) | ((with_reducible refine zas (f := 10) rfl ?_); refine zba (some 29) rfl rfl Tryd.func10 (by kernel_rfl) rfl #[.slice Ao14 y222.length co14] rfl (by (try simp only [List.map_toArray, List.map_cons, List.map_nil]); first | done | rfl | (simp only [List.length_drop, List.length_take]; rfl)) ?_; (with_reducible refine (script_Print.calls _ _ y222 t225 t226 _ ?side1 ?side2 ?side3 A4.out).mono ?_); (case side1 => repeat (first | exact (Kd.N_reads' HO224.out).2.2 | (with_reducible refine Kd.C_alloc ?_ _) | (with_reducible refine Kd.C_drewN ?_ _) | (with_reducible refine Kd.C_drew ?_))); (case side2 => exact (Kd.N_reads' HO224.out).2.1); (case side3 => exact zaz HT.out (by repeat (first | (with_reducible first | exact HB.out | apply zad | apply zab | apply zac) | exact HB.out))); rintro e w15 ⟨rfl, hb⟩; refine ⟨_, rfl, ?_⟩; have n0_ := Aside0.mk (Kd.N_below (by (with_reducible repeat (first | apply Kd.N_alloc | apply Kd.N_drewN | apply Kd.N_drew)); exact HO212.out) hb); have n1_ := Aside0.mk (Kd.N_below (by (with_reducible repeat (first | apply Kd.N_alloc | apply Kd.N_drewN | apply Kd.N_drew)); exact HO216.out) hb); have n2_ := Aside0.mk (Kd.N_below (by (with_reducible repeat (first | apply Kd.N_alloc | apply Kd.N_drewN | apply Kd.N_drew)); exact HO219.out) hb); have n3_ := Aside0.mk (Kd.N_below (by (with_reducible repeat (first | apply Kd.N_alloc | apply Kd.N_drewN | apply Kd.N_drew)); exact HO224.out) hb); have n4_ := Aside0.mk (zan (by repeat (first | (with_reducible first | exact HB.out | apply zad | apply zab | apply zac) | exact HB.out)) hb); clear HO212; clear HO216; clear HO219; clear HO224; clear HB; have HO212 := n0_; have HO216 := n1_; have HO219 := n2_; have HO224 := n3_; have HB := n4_; clear n0_ n1_ n2_ n3_ n4_; (try clear hb); (try clear hb2); (try clear hk); (try clear hi)))
 (try simp only [Act.put, List.setIfInBounds_toArray, List.set_cons_zero, List.set_cons_succ])
 go_cut [58] (fun v58 wc => ∃ (kq : Nat) (x58_4 : Bool), v58 = .bool x58_4 ∧ Aside0 (cofferlaw22_first.j0 kq t209 x58_4 = some r) ∧ Aside0 (kq ≤ k) ∧ Aside0 (Kd.N k36 36 wc w.heap.size (fun _ => True) v211 t209) ∧ Aside0 (Below w.heap.size w wc))
 case first =>
  have H := HC5.out
  clear HC5
  by_cases c16 : t210 = 0
  ·
   rw [if_pos c16] at H
   have c16b0 : (t210 == 0) = true := beq_iff_eq.mpr c16
   have c16b1 : (t210 != 0) = false := bne_eq_false_iff_eq.mpr c16
   clear c16
   (first | rw [c16b0] | (simp only [i64_w, i32_w]; rw [c16b0]) | rw [c16b2] | skip)
   by_cases c17 : t214 = 110
   ·
    rw [if_pos c17] at H
    have c17b0 : (t214 == 110) = true := beq_iff_eq.mpr c17
    have c17b1 : (t214 != 110) = false := bne_eq_false_iff_eq.mpr c17
    clear c17
    by_cases c18 : t221 = 0
    ·
     rw [if_pos c18] at H
     have c18b0 : (t221 == 0) = true := beq_iff_eq.mpr c18
     have c18b1 : (t221 != 0) = false := bne_eq_false_iff_eq.mpr c18
     clear c18
     by_cases c19 : t220.toList = ([102, 97, 108, 108, 32, 45, 49, 10, 100, 105, 103, 101, 115, 116, 10] : List UInt8)
     ·
      rw [if_pos c19] at H
      have c19b0 : (t220.toList == ([102, 97, 108, 108, 32, 45, 49, 10, 100, 105, 103, 101, 115, 116, 10] : List UInt8)) = true := beq_iff_eq.mpr c19
      have c19b1 : (t220.toList != ([102, 97, 108, 108, 32, 45, 49, 10, 100, 105, 103, 101, 115, 116, 10] : List UInt8)) = false := bne_eq_false_iff_eq.mpr c19
      clear c19
      by_cases c20 : t226 = 110
      ·
       rw [if_pos c20] at H
       have c20b0 : (t226 == 110) = true := beq_iff_eq.mpr c20
       have c20b1 : (t226 != 110) = false := bne_eq_false_iff_eq.mpr c20
       clear c20
       by_cases c21 : (t209.length : Int) = 3
       ·
        rw [if_pos c21] at H
        have c21b0 : ((t209.length : Int) == 3) = true := beq_iff_eq.mpr c21
        have c21b1 : ((t209.length : Int) != 3) = false := bne_eq_false_iff_eq.mpr c21
        clear c21
        replace H := Option.bind_eq_some_iff.mp H
        obtain ⟨t227, A220, H⟩ := H
        replace H : (cofferlaw22_first.j0 k t209 (t227.toList != ([34, 92, 120, 48, 48, 92, 34, 97, 34] : List UInt8))) = some r := H
        have A22 := Aside0.mk A220
        clear A220
        have H' := Aside0.mk H
        clear H
        obtain ⟨Ao23, co23, eo23⟩ := Kd.N_slice HO212.out
        subst eo23
        go_wp2_with (first | (go_at_call 13; (with_reducible refine (script_Quote.calls k (⟨#[0, 34, 97]⟩ : ByteArray) t227 _ A22.out).mono ?_); rintro e w24 ⟨rfl, hb⟩; have n0_ := Aside0.mk (Kd.N_below (by (with_reducible repeat (first | apply Kd.N_alloc | apply Kd.N_drewN | apply Kd.N_drew)); exact HO212.out) hb); have n1_ := Aside0.mk (Kd.N_below (by (with_reducible repeat (first | apply Kd.N_alloc | apply Kd.N_drewN | apply Kd.N_drew)); exact HO216.out) hb); have n2_ := Aside0.mk (Kd.N_below (by (with_reducible repeat (first | apply Kd.N_alloc | apply Kd.N_drewN | apply Kd.N_drew)); exact HO219.out) hb); have n3_ := Aside0.mk (Kd.N_below (by (with_reducible repeat (first | apply Kd.N_alloc | apply Kd.N_drewN | apply Kd.N_drew)); exact HO224.out) hb); have n4_ := Aside0.mk (zan (by repeat (first | (with_reducible first | exact HB.out | apply zad | apply zab | apply zac) | exact HB.out)) hb); clear HO212; clear HO216; clear HO219; clear HO224; clear HB; have HO212 := n0_; have HO216 := n1_; have HO219 := n2_; have HO224 := n3_; have HB := n4_; clear n0_ n1_ n2_ n3_ n4_; (try clear hb); (try clear hb2); (try clear hk); (try clear hi)))
        go_meet
        case rel => exact ⟨_, ((t227.toList != ([34, 92, 120, 48, 48, 92, 34, 97, 34] : List UInt8))), (by first | rfl | (simp; done) | (simp [*]; done)), H', ⟨by first | omega | exact Nat.le_refl _⟩, ⟨by (with_reducible repeat (first | apply Kd.N_alloc | apply Kd.N_drewN | apply Kd.N_drew)); exact Kd.N_mono HO212.out (fun _ hk => trivial)⟩, ⟨by repeat (first | (with_reducible first | exact HB.out | apply zad | apply zab | apply zac) | exact HB.out)⟩⟩
       ·
        rw [if_neg c21] at H
        have c21b0 : ((t209.length : Int) == 3) = false := beq_eq_false_iff_ne.mpr c21
        have c21b1 : ((t209.length : Int) != 3) = true := bne_iff_ne.mpr c21
        have H' := Aside0.mk H
        clear H
        obtain ⟨Ao25, co25, eo25⟩ := Kd.N_slice HO212.out
        subst eo25
        go_wp2
        go_meet
        case rel => exact ⟨_, (true), (by first | rfl | (simp; done) | (simp [*]; done)), H', ⟨by first | omega | exact Nat.le_refl _⟩, ⟨by (with_reducible repeat (first | apply Kd.N_alloc | apply Kd.N_drewN | apply Kd.N_drew)); exact Kd.N_mono HO212.out (fun _ hk => trivial)⟩, ⟨by repeat (first | (with_reducible first | exact HB.out | apply zad | apply zab | apply zac) | exact HB.out)⟩⟩
      ·
       rw [if_neg c20] at H
       have c20b0 : (t226 == 110) = false := beq_eq_false_iff_ne.mpr c20
       have c20b1 : (t226 != 110) = true := bne_iff_ne.mpr c20
       have H' := Aside0.mk H
       clear H
       go_wp2
       go_meet
       case rel => exact ⟨_, (true), (by first | rfl | (simp; done) | (simp [*]; done)), H', ⟨by first | omega | exact Nat.le_refl _⟩, ⟨by (with_reducible repeat (first | apply Kd.N_alloc | apply Kd.N_drewN | apply Kd.N_drew)); exact Kd.N_mono HO212.out (fun _ hk => trivial)⟩, ⟨by repeat (first | (with_reducible first | exact HB.out | apply zad | apply zab | apply zac) | exact HB.out)⟩⟩
     ·
      rw [if_neg c19] at H
      have c19b0 : (t220.toList == ([102, 97, 108, 108, 32, 45, 49, 10, 100, 105, 103, 101, 115, 116, 10] : List UInt8)) = false := beq_eq_false_iff_ne.mpr c19
      have c19b1 : (t220.toList != ([102, 97, 108, 108, 32, 45, 49, 10, 100, 105, 103, 101, 115, 116, 10] : List UInt8)) = true := bne_iff_ne.mpr c19
      have H' := Aside0.mk H
      clear H
      go_wp2
      go_meet
      case rel => exact ⟨_, (true), (by first | rfl | (simp; done) | (simp [*]; done)), H', ⟨by first | omega | exact Nat.le_refl _⟩, ⟨by (with_reducible repeat (first | apply Kd.N_alloc | apply Kd.N_drewN | apply Kd.N_drew)); exact Kd.N_mono HO212.out (fun _ hk => trivial)⟩, ⟨by repeat (first | (with_reducible first | exact HB.out | apply zad | apply zab | apply zac) | exact HB.out)⟩⟩
    ·
     rw [if_neg c18] at H
     have c18b0 : (t221 == 0) = false := beq_eq_false_iff_ne.mpr c18
     have c18b1 : (t221 != 0) = true := bne_iff_ne.mpr c18
     have H' := Aside0.mk H
     clear H
     go_wp2
     go_meet
     case rel => exact ⟨_, (true), (by first | rfl | (simp; done) | (simp [*]; done)), H', ⟨by first | omega | exact Nat.le_refl _⟩, ⟨by (with_reducible repeat (first | apply Kd.N_alloc | apply Kd.N_drewN | apply Kd.N_drew)); exact Kd.N_mono HO212.out (fun _ hk => trivial)⟩, ⟨by repeat (first | (with_reducible first | exact HB.out | apply zad | apply zab | apply zac) | exact HB.out)⟩⟩
   ·
    rw [if_neg c17] at H
    have c17b0 : (t214 == 110) = false := beq_eq_false_iff_ne.mpr c17
    have c17b1 : (t214 != 110) = true := bne_iff_ne.mpr c17
    have H' := Aside0.mk H
    clear H
    go_wp2
    go_meet
    case rel => exact ⟨_, (true), (by first | rfl | (simp; done) | (simp [*]; done)), H', ⟨by first | omega | exact Nat.le_refl _⟩, ⟨by (with_reducible repeat (first | apply Kd.N_alloc | apply Kd.N_drewN | apply Kd.N_drew)); exact Kd.N_mono HO212.out (fun _ hk => trivial)⟩, ⟨by repeat (first | (with_reducible first | exact HB.out | apply zad | apply zab | apply zac) | exact HB.out)⟩⟩
  ·
   rw [if_neg c16] at H
   have c16b0 : (t210 == 0) = false := beq_eq_false_iff_ne.mpr c16
   have c16b1 : (t210 != 0) = true := bne_iff_ne.mpr c16
   (first | rw [c16b0] | (simp only [i64_w, i32_w]; rw [c16b0]) | rw [c16b2] | skip)
   have H' := Aside0.mk H
   clear H
   go_wp2
   go_meet
   case rel => exact ⟨_, (true), (by first | rfl | (simp; done) | (simp [*]; done)), H', ⟨by first | omega | exact Nat.le_refl _⟩, ⟨by (with_reducible repeat (first | apply Kd.N_alloc | apply Kd.N_drewN | apply Kd.N_drew)); exact Kd.N_mono HO212.out (fun _ hk => trivial)⟩, ⟨by repeat (first | (with_reducible first | exact HB.out | apply zad | apply zab | apply zac) | exact HB.out)⟩⟩
 case rest =>
  clear HC5
  try clear c1
  try clear c2
  try clear p2
  try clear c10
  try clear c16
  try clear c16b0
  try clear c16b1
  try clear c16b2
  try clear c17
  try clear c17b0
  try clear c17b1
  try clear c18
  try clear c18b0
  try clear c18b1
  try clear c19
  try clear c19b0
  try clear c19b1
  try clear c20
  try clear c20b0
  try clear c20b1
  try clear c21
  try clear c21b0
  try clear c21b1
  obtain ⟨kq, x58_4, rfl, HA, HJ4, HO_1, HB⟩ := hcut
  cases kq with
  | zero => exact absurd HA.out (by simp [cofferlaw22_first.j0])
  | succ kj4 =>
   have H := HA.out
   clear HA
   simp only [cofferlaw22_first.j0] at H
   by_cases c26 : x58_4 = true
   ·
    subst c26
    have H1 : (some false) = some r := by rw [if_pos rfl] at H; exact H
    clear H
    have H := H1
    clear H1
    obtain rfl := Option.some.inj H
    go_wp2
    go_ret
    exact ⟨by first | rfl | (simp [zal, zam] <;> rfl) | (simp [*, zal, zam] <;> rfl), by repeat (first | (with_reducible first | exact HB.out | apply zad | apply zab | apply zac) | exact HB.out)⟩
   ·
    replace c26 := Bool.eq_false_iff.mpr c26
    subst c26
    have H1 : ((cofferlaw22_told.f kj4 t209).bind fun t237 => ((cofferref22_Same.f t237 (([(⟨2, 0, 0, (⟨1, (⟨#[97]⟩ : ByteArray), (⟨#[]⟩ : ByteArray), (⟨#[]⟩ : ByteArray), ([] : List (S38)), 0, 0, ([] : List Int)⟩ : S55), (⟨#[]⟩ : ByteArray)⟩ : S57), (⟨2, 0, 0, (⟨3, (⟨#[97]⟩ : ByteArray), (⟨#[107]⟩ : ByteArray), (⟨#[100]⟩ : ByteArray), (([(⟨(⟨#[116]⟩ : ByteArray), (⟨#[120]⟩ : ByteArray)⟩ : S38)] : List (S38))), 0, 0, ([] : List Int)⟩ : S55), (⟨#[]⟩ : ByteArray)⟩ : S57), (⟨2, 0, 0, (⟨18, (⟨#[]⟩ : ByteArray), (⟨#[]⟩ : ByteArray), (⟨#[]⟩ : ByteArray), ([] : List (S38)), 0, 3, (([0, 2] : List Int))⟩ : S55), (⟨#[]⟩ : ByteArray)⟩ : S57)] : List (S57)))).bind fun t240 => (if t240 = true then (some true) else (some false)))) = some r := by rw [if_neg (show ¬ (false = true) by decide)] at H; exact H
    clear H
    have H := H1
    clear H1
    obtain ⟨y228, hy228⟩ : ∃ y_ : List (S38), y_ = (([(⟨(⟨#[116]⟩ : ByteArray), (⟨#[120]⟩ : ByteArray)⟩ : S38)] : List (S38))) := ⟨_, rfl⟩
    replace H : ((cofferlaw22_told.f kj4 t209).bind fun t237 => ((cofferref22_Same.f t237 (([(⟨2, 0, 0, (⟨1, (⟨#[97]⟩ : ByteArray), (⟨#[]⟩ : ByteArray), (⟨#[]⟩ : ByteArray), ([] : List (S38)), 0, 0, ([] : List Int)⟩ : S55), (⟨#[]⟩ : ByteArray)⟩ : S57), (⟨2, 0, 0, (⟨3, (⟨#[97]⟩ : ByteArray), (⟨#[107]⟩ : ByteArray), (⟨#[100]⟩ : ByteArray), y228, 0, 0, ([] : List Int)⟩ : S55), (⟨#[]⟩ : ByteArray)⟩ : S57), (⟨2, 0, 0, (⟨18, (⟨#[]⟩ : ByteArray), (⟨#[]⟩ : ByteArray), (⟨#[]⟩ : ByteArray), ([] : List (S38)), 0, 3, (([0, 2] : List Int))⟩ : S55), (⟨#[]⟩ : ByteArray)⟩ : S57)] : List (S57)))).bind fun t240 => (if t240 = true then (some true) else (some false)))) = some r := by first | (rw [hy228]; with_reducible exact H) | (have H2_ := (Option.bind_some _ _).symm.trans H; rw [hy228]; with_reducible exact H2_) | (have H2_ := (Option.bind_some _ _).symm.trans H; with_reducible exact H2_) | with_reducible exact H | (rw [hy228]; exact H) | exact H
    have Ny228 := Aside0.mk hy228
    clear hy228
    obtain ⟨y231, hy231⟩ : ∃ y_ : List Int, y_ = (([0, 2] : List Int)) := ⟨_, rfl⟩
    replace H : ((cofferlaw22_told.f kj4 t209).bind fun t237 => ((cofferref22_Same.f t237 (([(⟨2, 0, 0, (⟨1, (⟨#[97]⟩ : ByteArray), (⟨#[]⟩ : ByteArray), (⟨#[]⟩ : ByteArray), ([] : List (S38)), 0, 0, ([] : List Int)⟩ : S55), (⟨#[]⟩ : ByteArray)⟩ : S57), (⟨2, 0, 0, (⟨3, (⟨#[97]⟩ : ByteArray), (⟨#[107]⟩ : ByteArray), (⟨#[100]⟩ : ByteArray), y228, 0, 0, ([] : List Int)⟩ : S55), (⟨#[]⟩ : ByteArray)⟩ : S57), (⟨2, 0, 0, (⟨18, (⟨#[]⟩ : ByteArray), (⟨#[]⟩ : ByteArray), (⟨#[]⟩ : ByteArray), ([] : List (S38)), 0, 3, y231⟩ : S55), (⟨#[]⟩ : ByteArray)⟩ : S57)] : List (S57)))).bind fun t240 => (if t240 = true then (some true) else (some false)))) = some r := by first | (rw [hy231]; with_reducible exact H) | (have H2_ := (Option.bind_some _ _).symm.trans H; rw [hy231]; with_reducible exact H2_) | (have H2_ := (Option.bind_some _ _).symm.trans H; with_reducible exact H2_) | with_reducible exact H | (rw [hy231]; exact H) | exact H
    have Ny231 := Aside0.mk hy231
    clear hy231
    obtain ⟨y234, hy234⟩ : ∃ y_ : List (S57), y_ = (([(⟨2, 0, 0, (⟨1, (⟨#[97]⟩ : ByteArray), (⟨#[]⟩ : ByteArray), (⟨#[]⟩ : ByteArray), ([] : List (S38)), 0, 0, ([] : List Int)⟩ : S55), (⟨#[]⟩ : ByteArray)⟩ : S57), (⟨2, 0, 0, (⟨3, (⟨#[97]⟩ : ByteArray), (⟨#[107]⟩ : ByteArray), (⟨#[100]⟩ : ByteArray), y228, 0, 0, ([] : List Int)⟩ : S55), (⟨#[]⟩ : ByteArray)⟩ : S57), (⟨2, 0, 0, (⟨18, (⟨#[]⟩ : ByteArray), (⟨#[]⟩ : ByteArray), (⟨#[]⟩ : ByteArray), ([] : List (S38)), 0, 3, y231⟩ : S55), (⟨#[]⟩ : ByteArray)⟩ : S57)] : List (S57))) := ⟨_, rfl⟩
    replace H : ((cofferlaw22_told.f kj4 t209).bind fun t237 => ((cofferref22_Same.f t237 y234).bind fun t240 => (if t240 = true then (some true) else (some false)))) = some r := by first | (rw [hy234]; with_reducible exact H) | (have H2_ := (Option.bind_some _ _).symm.trans H; rw [hy234]; with_reducible exact H2_) | (have H2_ := (Option.bind_some _ _).symm.trans H; with_reducible exact H2_) | with_reducible exact H | (rw [hy234]; exact H) | exact H
    have Ny234 := Aside0.mk hy234
    clear hy234
    replace H := Option.bind_eq_some_iff.mp H
    obtain ⟨t237, A270, H⟩ := H
    replace H : ((cofferref22_Same.f t237 y234).bind fun t240 => (if t240 = true then (some true) else (some false))) = some r := H
    have A27 := Aside0.mk A270
    clear A270
    replace H := Option.bind_eq_some_iff.mp H
    obtain ⟨t240, A280, H⟩ := H
    replace H : (if t240 = true then (some true) else (some false)) = some r := H
    have A28 := Aside0.mk A280
    clear A280
    by_cases c29 : t240 = true
    ·
     subst c29
     have H1 : (some true) = some r := by rw [if_pos rfl] at H; exact H
     clear H
     have H := H1
     clear H1
     obtain rfl := Option.some.inj H
     go_wp2_with (first | ((with_reducible refine zau (N := 62) rfl ?_); (try (refine zbn (by rfl) ?_; dsimp only)); refine Kd.R_lit k38 _ 38 ?hg (N := 62) ?hd (xs := ([(⟨(⟨#[116]⟩ : ByteArray), (⟨#[120]⟩ : ByteArray)⟩ : S38)] : List (S38))) (inner := [.string (⟨#[116]⟩ : ByteArray), .string (⟨#[120]⟩ : ByteArray)]) (ok := fun _ => True) (okp := fun _ => True) ?hr ?hp (fun _ hk => hk) trivial (Below.refl _ _) (Nat.le_refl _) (by simp) ?_; (case hd => rfl); (case hg => rfl); (case hr => first | (go_simp; done) | (go_simp; rfl)); (case hp => exact (Reps.c2 (show Kd.M k38 _ _ _ (⟨(⟨#[116]⟩ : ByteArray), (⟨#[120]⟩ : ByteArray)⟩ : S38) [.string (⟨#[116]⟩ : ByteArray), .string (⟨#[120]⟩ : ByteArray)] from (k38_mkM _ _ _ (⟨(⟨#[116]⟩ : ByteArray), (⟨#[120]⟩ : ByteArray)⟩ : S38) )) (Reps.none _ _))); intro v229 w30 ho31 hb hg_ hnew_; clear hg_ hnew_; (first | rw [← Ny228.out] at ho31 | (simp only [Int.reduceToNat] at ho31; rw [← Ny228.out] at ho31)); have n0_ := Aside0.mk (Kd.N_elder' (by (with_reducible repeat (first | apply Kd.N_alloc | apply Kd.N_drewN | apply Kd.N_drew)); exact HO_1.out) (Kd.R_base ho31) hb); have n1_ := Aside0.mk (Kd.R_lower ho31 (zaj (by repeat (first | (with_reducible first | exact HB.out | apply zad | apply zab | apply zac) | exact HB.out)))); have n2_ := Aside0.mk (zan (by repeat (first | (with_reducible first | exact HB.out | apply zad | apply zab | apply zac) | exact HB.out)) hb); clear HO_1; clear HB; have HO_1 := n0_; have HO230 := n1_; have HB := n2_; clear n0_ n1_ n2_; clear hb ho31; obtain ⟨Ao32, co32, eo32⟩ := Kd.R_slice HO230.out; subst eo32) | ((with_reducible refine zau (N := 65) rfl ?_); (try (refine zbn (by rfl) ?_; dsimp only)); refine Kd.R_lit (Kd.int .i64) _ 3 ?hg (N := 65) ?hd (xs := ([0, 2] : List Int)) (inner := [.int .i64 0, .int .i64 2]) (ok := fun _ => True) (okp := fun _ => True) ?hr ?hp (fun _ hk => hk) trivial (Below.refl _ _) (Nat.le_refl _) (by simp) ?_; (case hd => rfl); (case hg => rfl); (case hr => first | (go_simp; done) | (go_simp; rfl)); (case hp => exact (Reps.one (show Kd.M (Kd.int .i64) _ _ _ 0 [.int .i64 0] from rfl) (Reps.one (show Kd.M (Kd.int .i64) _ _ _ 2 [.int .i64 2] from rfl) (Reps.none _ _)))); intro v232 w33 ho34 hb hg_ hnew_; clear hg_ hnew_; (first | rw [← Ny231.out] at ho34 | (simp only [Int.reduceToNat] at ho34; rw [← Ny231.out] at ho34)); have n0_ := Aside0.mk (Kd.N_elder' (by (with_reducible repeat (first | apply Kd.N_alloc | apply Kd.N_drewN | apply Kd.N_drew)); exact HO_1.out) (Kd.R_base ho34) hb); have n1_ := Aside0.mk (Kd.R_below (by (with_reducible repeat (first | apply Kd.R_alloc | apply Kd.R_drewN | apply Kd.R_drew)); exact HO230.out) hb); have n2_ := Aside0.mk (Kd.R_lower ho34 (zaj (by repeat (first | (with_reducible first | exact HB.out | apply zad | apply zab | apply zac) | exact HB.out)))); have n3_ := Aside0.mk (zan (by repeat (first | (with_reducible first | exact HB.out | apply zad | apply zab | apply zac) | exact HB.out)) hb); clear HO_1; clear HO230; clear HB; have HO_1 := n0_; have HO230 := n1_; have HO233 := n2_; have HB := n3_; clear n0_ n1_ n2_ n3_; clear hb ho34; obtain ⟨Ao35, co35, eo35⟩ := Kd.R_slice HO233.out; subst eo35) | ((with_reducible refine zau (N := 68) rfl ?_); (try (refine zbn (by rfl) ?_; dsimp only)); refine Kd.N_lit k57 _ 57 ?hg (N' := 68) ?hd (xs := ([(⟨2, 0, 0, (⟨1, (⟨#[97]⟩ : ByteArray), (⟨#[]⟩ : ByteArray), (⟨#[]⟩ : ByteArray), ([] : List (S38)), 0, 0, ([] : List Int)⟩ : S55), (⟨#[]⟩ : ByteArray)⟩ : S57), (⟨2, 0, 0, (⟨3, (⟨#[97]⟩ : ByteArray), (⟨#[107]⟩ : ByteArray), (⟨#[100]⟩ : ByteArray), y228, 0, 0, ([] : List Int)⟩ : S55), (⟨#[]⟩ : ByteArray)⟩ : S57), (⟨2, 0, 0, (⟨18, (⟨#[]⟩ : ByteArray), (⟨#[]⟩ : ByteArray), (⟨#[]⟩ : ByteArray), ([] : List (S38)), 0, 3, y231⟩ : S55), (⟨#[]⟩ : ByteArray)⟩ : S57)] : List (S57))) (inner := [.int .i64 2, .int .i64 0, .int .i64 0, .int .i64 1, .string (⟨#[97]⟩ : ByteArray), .string (⟨#[]⟩ : ByteArray), .string (⟨#[]⟩ : ByteArray), .slice none 0 0, .int .i64 0, .int .i64 0, .slice none 0 0, .string (⟨#[]⟩ : ByteArray), .int .i64 2, .int .i64 0, .int .i64 0, .int .i64 3, .string (⟨#[97]⟩ : ByteArray), .string (⟨#[107]⟩ : ByteArray), .string (⟨#[100]⟩ : ByteArray), .slice Ao32 y228.length co32, .int .i64 0, .int .i64 0, .slice none 0 0, .string (⟨#[]⟩ : ByteArray), .int .i64 2, .int .i64 0, .int .i64 0, .int .i64 18, .string (⟨#[]⟩ : ByteArray), .string (⟨#[]⟩ : ByteArray), .string (⟨#[]⟩ : ByteArray), .slice none 0 0, .int .i64 0, .int .i64 3, .slice Ao35 y231.length co35, .string (⟨#[]⟩ : ByteArray)]) (ok := (fun k_ => some k_ ≠ (v211 : Value).ownBlock)) (okp := (fun k_ => some k_ ≠ (v211 : Value).ownBlock)) ?hr ?hp (fun _ hk => hk) ((show ∀ k_, w33.heap.size ≤ k_ → (fun k_ => some k_ ≠ (v211 : Value).ownBlock) k_ from fun k_ hk => Kd.fresh' (Kd.N_lt (by (with_reducible repeat (first | apply Kd.N_alloc | apply Kd.N_drewN | apply Kd.N_drew)); exact HO_1.out)) k_ hk) _ (Nat.le_refl _)) (Below.refl _ _) (Nat.le_refl _) (by simp) ?_; (case hd => rfl); (case hg => rfl); (case hr => first | (go_simp; done) | (go_simp; rfl)); (case hp => exact (Reps.front (show Kd.FK k57 _ _ (⟨2, 0, 0, (⟨1, (⟨#[97]⟩ : ByteArray), (⟨#[]⟩ : ByteArray), (⟨#[]⟩ : ByteArray), ([] : List (S38)), 0, 0, ([] : List Int)⟩ : S55), (⟨#[]⟩ : ByteArray)⟩ : S57) [.int .i64 2, .int .i64 0, .int .i64 0, .int .i64 1, .string (⟨#[97]⟩ : ByteArray), .string (⟨#[]⟩ : ByteArray), .string (⟨#[]⟩ : ByteArray), .slice none 0 0, .int .i64 0, .int .i64 0, .slice none 0 0, .string (⟨#[]⟩ : ByteArray)] from (k57_mkF _ _ (⟨2, 0, 0, (⟨1, (⟨#[97]⟩ : ByteArray), (⟨#[]⟩ : ByteArray), (⟨#[]⟩ : ByteArray), ([] : List (S38)), 0, 0, ([] : List Int)⟩ : S55), (⟨#[]⟩ : ByteArray)⟩ : S57) (Nat.le_refl _) (Kd.F_nil _ _ _) (Nat.le_refl _) (Kd.F_nil _ _ _))) rfl (Reps.front (show Kd.FK k57 _ _ (⟨2, 0, 0, (⟨3, (⟨#[97]⟩ : ByteArray), (⟨#[107]⟩ : ByteArray), (⟨#[100]⟩ : ByteArray), y228, 0, 0, ([] : List Int)⟩ : S55), (⟨#[]⟩ : ByteArray)⟩ : S57) [.int .i64 2, .int .i64 0, .int .i64 0, .int .i64 3, .string (⟨#[97]⟩ : ByteArray), .string (⟨#[107]⟩ : ByteArray), .string (⟨#[100]⟩ : ByteArray), .slice Ao32 y228.length co32, .int .i64 0, .int .i64 0, .slice none 0 0, .string (⟨#[]⟩ : ByteArray)] from (k57_mkF _ _ (⟨2, 0, 0, (⟨3, (⟨#[97]⟩ : ByteArray), (⟨#[107]⟩ : ByteArray), (⟨#[100]⟩ : ByteArray), y228, 0, 0, ([] : List Int)⟩ : S55), (⟨#[]⟩ : ByteArray)⟩ : S57) (Kd.R_reads' (Kd.R_mono (ok' := (fun k_ => some k_ ≠ (v211 : Value).ownBlock)) (Kd.R_apart' (HO230.out) (Kd.N_typed HO_1.out) (by decide)) (fun k_ hk => hk.2))).2.1 (Kd.R_F (Kd.R_mono (ok' := (fun k_ => some k_ ≠ (v211 : Value).ownBlock)) (Kd.R_apart' (HO230.out) (Kd.N_typed HO_1.out) (by decide)) (fun k_ hk => hk.2))) (Nat.le_refl _) (Kd.F_nil _ _ _))) rfl (Reps.front (show Kd.FK k57 _ _ (⟨2, 0, 0, (⟨18, (⟨#[]⟩ : ByteArray), (⟨#[]⟩ : ByteArray), (⟨#[]⟩ : ByteArray), ([] : List (S38)), 0, 3, y231⟩ : S55), (⟨#[]⟩ : ByteArray)⟩ : S57) [.int .i64 2, .int .i64 0, .int .i64 0, .int .i64 18, .string (⟨#[]⟩ : ByteArray), .string (⟨#[]⟩ : ByteArray), .string (⟨#[]⟩ : ByteArray), .slice none 0 0, .int .i64 0, .int .i64 3, .slice Ao35 y231.length co35, .string (⟨#[]⟩ : ByteArray)] from (k57_mkF _ _ (⟨2, 0, 0, (⟨18, (⟨#[]⟩ : ByteArray), (⟨#[]⟩ : ByteArray), (⟨#[]⟩ : ByteArray), ([] : List (S38)), 0, 3, y231⟩ : S55), (⟨#[]⟩ : ByteArray)⟩ : S57) (Nat.le_refl _) (Kd.F_nil _ _ _) (Kd.R_reads' (Kd.R_mono (ok' := (fun k_ => some k_ ≠ (v211 : Value).ownBlock)) (Kd.R_apart' (HO233.out) (Kd.N_typed HO_1.out) (by decide)) (fun k_ hk => hk.2))).2.1 (Kd.R_F (Kd.R_mono (ok' := (fun k_ => some k_ ≠ (v211 : Value).ownBlock)) (Kd.R_apart' (HO233.out) (Kd.N_typed HO_1.out) (by decide)) (fun k_ hk => hk.2))))) rfl (Reps.none _ _) rfl) rfl) rfl)); intro v235 w36 ho37 hb hg_ hnew_; clear hg_ hnew_; (first | rw [← Ny234.out] at ho37 | (simp only [Int.reduceToNat] at ho37; rw [← Ny234.out] at ho37)); have n0_ := Aside0.mk (Kd.N_elder' (by (with_reducible repeat (first | apply Kd.N_alloc | apply Kd.N_drewN | apply Kd.N_drew)); exact HO_1.out) (Kd.N_base ho37) hb); have n1_ := Aside0.mk (Kd.N_lower ho37 (zaj (by repeat (first | (with_reducible first | exact HB.out | apply zad | apply zab | apply zac) | exact HB.out)))); have n2_ := Aside0.mk (zan (by repeat (first | (with_reducible first | exact HB.out | apply zad | apply zab | apply zac) | exact HB.out)) hb); clear HO_1; clear HB; clear HO230; clear HO233; have HO_1 := n0_; have HO236 := n1_; have HB := n2_; clear n0_ n1_ n2_; clear hb ho37; obtain ⟨Ao38, co38, eo38⟩ := Kd.N_slice HO_1.out; subst eo38) | ((with_reducible refine zas (f := 15) rfl ?_); refine zba (some 70) rfl rfl Tryd.func15 (by kernel_rfl) rfl #[.slice Ao38 t209.length co38] rfl (by (try simp only [List.map_toArray, List.map_cons, List.map_nil]); first | done | rfl | (simp only [List.length_drop, List.length_take]; rfl)) ?_; (with_reducible refine (cofferlaw22_told.calls kj4 _ _ t209 t237 _ ?side1 ?side2 A27.out).mono ?_); (case side1 => repeat (first | exact (Kd.N_reads' HO_1.out).2.2 | (with_reducible refine Kd.C_alloc ?_ _) | (with_reducible refine Kd.C_drewN ?_ _) | (with_reducible refine Kd.C_drew ?_))); (case side2 => exact (Kd.N_reads' HO_1.out).2.1); rintro e w39 ⟨v238, rfl, ho0, hb⟩; refine ⟨_, rfl, ?_⟩; have n0_ := Aside0.mk (Kd.N_elder' (by (with_reducible repeat (first | apply Kd.N_alloc | apply Kd.N_drewN | apply Kd.N_drew)); exact HO_1.out) (Kd.N_base (Kd.S_N ho0)) hb); have n1_ := Aside0.mk (Kd.N_elder' (by (with_reducible repeat (first | apply Kd.N_alloc | apply Kd.N_drewN | apply Kd.N_drew)); exact HO236.out) (Kd.N_base (Kd.S_N ho0)) hb); have n2_ := Aside0.mk (Kd.N_lower (Kd.N_mono (ok' := fun k_ => some k_ ≠ (.slice Ao38 t209.length co38 : Value).ownBlock ∧ some k_ ≠ (v235 : Value).ownBlock) (Kd.S_N (Kd.S_bound ho0)) (fun k_ hk_ => ⟨(Kd.fresh' (Kd.N_lt (by (with_reducible repeat (first | apply Kd.N_alloc | apply Kd.N_drewN | apply Kd.N_drew)); exact HO_1.out)) k_ hk_.2.1), (Kd.fresh' (Kd.N_lt (by (with_reducible repeat (first | apply Kd.N_alloc | apply Kd.N_drewN | apply Kd.N_drew)); exact HO236.out)) k_ hk_.2.1)⟩)) (zaj (by repeat (first | (with_reducible first | exact HB.out | apply zad | apply zab | apply zac) | exact HB.out)))); have n3_ := Aside0.mk (zan (by repeat (first | (with_reducible first | exact HB.out | apply zad | apply zab | apply zac) | exact HB.out)) hb); clear HO_1; clear HO236; clear HB; have HO_1 := n0_; have HO236 := n1_; have HO239 := n2_; have HB := n3_; clear n0_ n1_ n2_ n3_; (try clear hb); (try clear hb2); (try clear hk); (try clear hi); (try clear ho0); obtain ⟨Ao40, co40, eo40⟩ := Kd.N_slice HO239.out; subst eo40; obtain ⟨Ao41, co41, eo41⟩ := Kd.N_slice HO236.out; subst eo41) | ((with_reducible refine zas (f := 19) rfl ?_); refine zba (some 72) rfl rfl Tryd.func19 (by kernel_rfl) rfl #[.slice Ao40 t237.length co40, .slice Ao41 y234.length co41] rfl (by (try simp only [List.map_toArray, List.map_cons, List.map_nil]); first | done | rfl | (simp only [List.length_drop, List.length_take]; rfl)) ?_; (with_reducible refine (cofferref22_Same.calls _ _ t237 _ _ y234 true _ ?side1 ?side2 ?side3 ?side4 A28.out).mono ?_); (case side1 => repeat (first | exact (Kd.N_reads' HO239.out).2.2 | (with_reducible refine Kd.C_alloc ?_ _) | (with_reducible refine Kd.C_drewN ?_ _) | (with_reducible refine Kd.C_drew ?_))); (case side2 => exact (Kd.N_reads' HO239.out).2.1); (case side3 => repeat (first | exact (Kd.N_reads' HO236.out).2.2 | (with_reducible refine Kd.C_alloc ?_ _) | (with_reducible refine Kd.C_drewN ?_ _) | (with_reducible refine Kd.C_drew ?_))); (case side4 => exact (Kd.N_reads' HO236.out).2.1); rintro e w42 ⟨rfl, hb⟩; refine ⟨_, rfl, ?_⟩; have n0_ := Aside0.mk (Kd.N_below (by (with_reducible repeat (first | apply Kd.N_alloc | apply Kd.N_drewN | apply Kd.N_drew)); exact HO_1.out) hb); have n1_ := Aside0.mk (Kd.N_below (by (with_reducible repeat (first | apply Kd.N_alloc | apply Kd.N_drewN | apply Kd.N_drew)); exact HO236.out) hb); have n2_ := Aside0.mk (Kd.N_below (by (with_reducible repeat (first | apply Kd.N_alloc | apply Kd.N_drewN | apply Kd.N_drew)); exact HO239.out) hb); have n3_ := Aside0.mk (zan (by repeat (first | (with_reducible first | exact HB.out | apply zad | apply zab | apply zac) | exact HB.out)) hb); clear HO_1; clear HO236; clear HO239; clear HB; have HO_1 := n0_; have HO236 := n1_; have HO239 := n2_; have HB := n3_; clear n0_ n1_ n2_ n3_; (try clear hb); (try clear hb2); (try clear hk); (try clear hi)))
     go_ret
     exact ⟨by first | rfl | (simp [zal, zam] <;> rfl) | (simp [*, zal, zam] <;> rfl), by repeat (first | (with_reducible first | exact HB.out | apply zad | apply zab | apply zac) | exact HB.out)⟩
    ·
     replace c29 := Bool.eq_false_iff.mpr c29
     subst c29
     have H1 : (some false) = some r := by rw [if_neg (show ¬ (false = true) by decide)] at H; exact H
     clear H
     have H := H1
     clear H1
     obtain rfl := Option.some.inj H
     go_wp2_with (first | ((with_reducible refine zau (N := 62) rfl ?_); (try (refine zbn (by rfl) ?_; dsimp only)); refine Kd.R_lit k38 _ 38 ?hg (N := 62) ?hd (xs := ([(⟨(⟨#[116]⟩ : ByteArray), (⟨#[120]⟩ : ByteArray)⟩ : S38)] : List (S38))) (inner := [.string (⟨#[116]⟩ : ByteArray), .string (⟨#[120]⟩ : ByteArray)]) (ok := fun _ => True) (okp := fun _ => True) ?hr ?hp (fun _ hk => hk) trivial (Below.refl _ _) (Nat.le_refl _) (by simp) ?_; (case hd => rfl); (case hg => rfl); (case hr => first | (go_simp; done) | (go_simp; rfl)); (case hp => exact (Reps.c2 (show Kd.M k38 _ _ _ (⟨(⟨#[116]⟩ : ByteArray), (⟨#[120]⟩ : ByteArray)⟩ : S38) [.string (⟨#[116]⟩ : ByteArray), .string (⟨#[120]⟩ : ByteArray)] from (k38_mkM _ _ _ (⟨(⟨#[116]⟩ : ByteArray), (⟨#[120]⟩ : ByteArray)⟩ : S38) )) (Reps.none _ _))); intro v229 w43 ho44 hb hg_ hnew_; clear hg_ hnew_; (first | rw [← Ny228.out] at ho44 | (simp only [Int.reduceToNat] at ho44; rw [← Ny228.out] at ho44)); have n0_ := Aside0.mk (Kd.N_elder' (by (with_reducible repeat (first | apply Kd.N_alloc | apply Kd.N_drewN | apply Kd.N_drew)); exact HO_1.out) (Kd.R_base ho44) hb); have n1_ := Aside0.mk (Kd.R_lower ho44 (zaj (by repeat (first | (with_reducible first | exact HB.out | apply zad | apply zab | apply zac) | exact HB.out)))); have n2_ := Aside0.mk (zan (by repeat (first | (with_reducible first | exact HB.out | apply zad | apply zab | apply zac) | exact HB.out)) hb); clear HO_1; clear HB; have HO_1 := n0_; have HO230 := n1_; have HB := n2_; clear n0_ n1_ n2_; clear hb ho44; obtain ⟨Ao45, co45, eo45⟩ := Kd.R_slice HO230.out; subst eo45) | ((with_reducible refine zau (N := 65) rfl ?_); (try (refine zbn (by rfl) ?_; dsimp only)); refine Kd.R_lit (Kd.int .i64) _ 3 ?hg (N := 65) ?hd (xs := ([0, 2] : List Int)) (inner := [.int .i64 0, .int .i64 2]) (ok := fun _ => True) (okp := fun _ => True) ?hr ?hp (fun _ hk => hk) trivial (Below.refl _ _) (Nat.le_refl _) (by simp) ?_; (case hd => rfl); (case hg => rfl); (case hr => first | (go_simp; done) | (go_simp; rfl)); (case hp => exact (Reps.one (show Kd.M (Kd.int .i64) _ _ _ 0 [.int .i64 0] from rfl) (Reps.one (show Kd.M (Kd.int .i64) _ _ _ 2 [.int .i64 2] from rfl) (Reps.none _ _)))); intro v232 w46 ho47 hb hg_ hnew_; clear hg_ hnew_; (first | rw [← Ny231.out] at ho47 | (simp only [Int.reduceToNat] at ho47; rw [← Ny231.out] at ho47)); have n0_ := Aside0.mk (Kd.N_elder' (by (with_reducible repeat (first | apply Kd.N_alloc | apply Kd.N_drewN | apply Kd.N_drew)); exact HO_1.out) (Kd.R_base ho47) hb); have n1_ := Aside0.mk (Kd.R_below (by (with_reducible repeat (first | apply Kd.R_alloc | apply Kd.R_drewN | apply Kd.R_drew)); exact HO230.out) hb); have n2_ := Aside0.mk (Kd.R_lower ho47 (zaj (by repeat (first | (with_reducible first | exact HB.out | apply zad | apply zab | apply zac) | exact HB.out)))); have n3_ := Aside0.mk (zan (by repeat (first | (with_reducible first | exact HB.out | apply zad | apply zab | apply zac) | exact HB.out)) hb); clear HO_1; clear HO230; clear HB; have HO_1 := n0_; have HO230 := n1_; have HO233 := n2_; have HB := n3_; clear n0_ n1_ n2_ n3_; clear hb ho47; obtain ⟨Ao48, co48, eo48⟩ := Kd.R_slice HO233.out; subst eo48) | ((with_reducible refine zau (N := 68) rfl ?_); (try (refine zbn (by rfl) ?_; dsimp only)); refine Kd.N_lit k57 _ 57 ?hg (N' := 68) ?hd (xs := ([(⟨2, 0, 0, (⟨1, (⟨#[97]⟩ : ByteArray), (⟨#[]⟩ : ByteArray), (⟨#[]⟩ : ByteArray), ([] : List (S38)), 0, 0, ([] : List Int)⟩ : S55), (⟨#[]⟩ : ByteArray)⟩ : S57), (⟨2, 0, 0, (⟨3, (⟨#[97]⟩ : ByteArray), (⟨#[107]⟩ : ByteArray), (⟨#[100]⟩ : ByteArray), y228, 0, 0, ([] : List Int)⟩ : S55), (⟨#[]⟩ : ByteArray)⟩ : S57), (⟨2, 0, 0, (⟨18, (⟨#[]⟩ : ByteArray), (⟨#[]⟩ : ByteArray), (⟨#[]⟩ : ByteArray), ([] : List (S38)), 0, 3, y231⟩ : S55), (⟨#[]⟩ : ByteArray)⟩ : S57)] : List (S57))) (inner := [.int .i64 2, .int .i64 0, .int .i64 0, .int .i64 1, .string (⟨#[97]⟩ : ByteArray), .string (⟨#[]⟩ : ByteArray), .string (⟨#[]⟩ : ByteArray), .slice none 0 0, .int .i64 0, .int .i64 0, .slice none 0 0, .string (⟨#[]⟩ : ByteArray), .int .i64 2, .int .i64 0, .int .i64 0, .int .i64 3, .string (⟨#[97]⟩ : ByteArray), .string (⟨#[107]⟩ : ByteArray), .string (⟨#[100]⟩ : ByteArray), .slice Ao45 y228.length co45, .int .i64 0, .int .i64 0, .slice none 0 0, .string (⟨#[]⟩ : ByteArray), .int .i64 2, .int .i64 0, .int .i64 0, .int .i64 18, .string (⟨#[]⟩ : ByteArray), .string (⟨#[]⟩ : ByteArray), .string (⟨#[]⟩ : ByteArray), .slice none 0 0, .int .i64 0, .int .i64 3, .slice Ao48 y231.length co48, .string (⟨#[]⟩ : ByteArray)]) (ok := (fun k_ => some k_ ≠ (v211 : Value).ownBlock)) (okp := (fun k_ => some k_ ≠ (v211 : Value).ownBlock)) ?hr ?hp (fun _ hk => hk) ((show ∀ k_, w46.heap.size ≤ k_ → (fun k_ => some k_ ≠ (v211 : Value).ownBlock) k_ from fun k_ hk => Kd.fresh' (Kd.N_lt (by (with_reducible repeat (first | apply Kd.N_alloc | apply Kd.N_drewN | apply Kd.N_drew)); exact HO_1.out)) k_ hk) _ (Nat.le_refl _)) (Below.refl _ _) (Nat.le_refl _) (by simp) ?_; (case hd => rfl); (case hg => rfl); (case hr => first | (go_simp; done) | (go_simp; rfl)); (case hp => exact (Reps.front (show Kd.FK k57 _ _ (⟨2, 0, 0, (⟨1, (⟨#[97]⟩ : ByteArray), (⟨#[]⟩ : ByteArray), (⟨#[]⟩ : ByteArray), ([] : List (S38)), 0, 0, ([] : List Int)⟩ : S55), (⟨#[]⟩ : ByteArray)⟩ : S57) [.int .i64 2, .int .i64 0, .int .i64 0, .int .i64 1, .string (⟨#[97]⟩ : ByteArray), .string (⟨#[]⟩ : ByteArray), .string (⟨#[]⟩ : ByteArray), .slice none 0 0, .int .i64 0, .int .i64 0, .slice none 0 0, .string (⟨#[]⟩ : ByteArray)] from (k57_mkF _ _ (⟨2, 0, 0, (⟨1, (⟨#[97]⟩ : ByteArray), (⟨#[]⟩ : ByteArray), (⟨#[]⟩ : ByteArray), ([] : List (S38)), 0, 0, ([] : List Int)⟩ : S55), (⟨#[]⟩ : ByteArray)⟩ : S57) (Nat.le_refl _) (Kd.F_nil _ _ _) (Nat.le_refl _) (Kd.F_nil _ _ _))) rfl (Reps.front (show Kd.FK k57 _ _ (⟨2, 0, 0, (⟨3, (⟨#[97]⟩ : ByteArray), (⟨#[107]⟩ : ByteArray), (⟨#[100]⟩ : ByteArray), y228, 0, 0, ([] : List Int)⟩ : S55), (⟨#[]⟩ : ByteArray)⟩ : S57) [.int .i64 2, .int .i64 0, .int .i64 0, .int .i64 3, .string (⟨#[97]⟩ : ByteArray), .string (⟨#[107]⟩ : ByteArray), .string (⟨#[100]⟩ : ByteArray), .slice Ao45 y228.length co45, .int .i64 0, .int .i64 0, .slice none 0 0, .string (⟨#[]⟩ : ByteArray)] from (k57_mkF _ _ (⟨2, 0, 0, (⟨3, (⟨#[97]⟩ : ByteArray), (⟨#[107]⟩ : ByteArray), (⟨#[100]⟩ : ByteArray), y228, 0, 0, ([] : List Int)⟩ : S55), (⟨#[]⟩ : ByteArray)⟩ : S57) (Kd.R_reads' (Kd.R_mono (ok' := (fun k_ => some k_ ≠ (v211 : Value).ownBlock)) (Kd.R_apart' (HO230.out) (Kd.N_typed HO_1.out) (by decide)) (fun k_ hk => hk.2))).2.1 (Kd.R_F (Kd.R_mono (ok' := (fun k_ => some k_ ≠ (v211 : Value).ownBlock)) (Kd.R_apart' (HO230.out) (Kd.N_typed HO_1.out) (by decide)) (fun k_ hk => hk.2))) (Nat.le_refl _) (Kd.F_nil _ _ _))) rfl (Reps.front (show Kd.FK k57 _ _ (⟨2, 0, 0, (⟨18, (⟨#[]⟩ : ByteArray), (⟨#[]⟩ : ByteArray), (⟨#[]⟩ : ByteArray), ([] : List (S38)), 0, 3, y231⟩ : S55), (⟨#[]⟩ : ByteArray)⟩ : S57) [.int .i64 2, .int .i64 0, .int .i64 0, .int .i64 18, .string (⟨#[]⟩ : ByteArray), .string (⟨#[]⟩ : ByteArray), .string (⟨#[]⟩ : ByteArray), .slice none 0 0, .int .i64 0, .int .i64 3, .slice Ao48 y231.length co48, .string (⟨#[]⟩ : ByteArray)] from (k57_mkF _ _ (⟨2, 0, 0, (⟨18, (⟨#[]⟩ : ByteArray), (⟨#[]⟩ : ByteArray), (⟨#[]⟩ : ByteArray), ([] : List (S38)), 0, 3, y231⟩ : S55), (⟨#[]⟩ : ByteArray)⟩ : S57) (Nat.le_refl _) (Kd.F_nil _ _ _) (Kd.R_reads' (Kd.R_mono (ok' := (fun k_ => some k_ ≠ (v211 : Value).ownBlock)) (Kd.R_apart' (HO233.out) (Kd.N_typed HO_1.out) (by decide)) (fun k_ hk => hk.2))).2.1 (Kd.R_F (Kd.R_mono (ok' := (fun k_ => some k_ ≠ (v211 : Value).ownBlock)) (Kd.R_apart' (HO233.out) (Kd.N_typed HO_1.out) (by decide)) (fun k_ hk => hk.2))))) rfl (Reps.none _ _) rfl) rfl) rfl)); intro v235 w49 ho50 hb hg_ hnew_; clear hg_ hnew_; (first | rw [← Ny234.out] at ho50 | (simp only [Int.reduceToNat] at ho50; rw [← Ny234.out] at ho50)); have n0_ := Aside0.mk (Kd.N_elder' (by (with_reducible repeat (first | apply Kd.N_alloc | apply Kd.N_drewN | apply Kd.N_drew)); exact HO_1.out) (Kd.N_base ho50) hb); have n1_ := Aside0.mk (Kd.N_lower ho50 (zaj (by repeat (first | (with_reducible first | exact HB.out | apply zad | apply zab | apply zac) | exact HB.out)))); have n2_ := Aside0.mk (zan (by repeat (first | (with_reducible first | exact HB.out | apply zad | apply zab | apply zac) | exact HB.out)) hb); clear HO_1; clear HB; clear HO230; clear HO233; have HO_1 := n0_; have HO236 := n1_; have HB := n2_; clear n0_ n1_ n2_; clear hb ho50; obtain ⟨Ao51, co51, eo51⟩ := Kd.N_slice HO_1.out; subst eo51) | ((with_reducible refine zas (f := 15) rfl ?_); refine zba (some 70) rfl rfl Tryd.func15 (by kernel_rfl) rfl #[.slice Ao51 t209.length co51] rfl (by (try simp only [List.map_toArray, List.map_cons, List.map_nil]); first | done | rfl | (simp only [List.length_drop, List.length_take]; rfl)) ?_; (with_reducible refine (cofferlaw22_told.calls kj4 _ _ t209 t237 _ ?side1 ?side2 A27.out).mono ?_); (case side1 => repeat (first | exact (Kd.N_reads' HO_1.out).2.2 | (with_reducible refine Kd.C_alloc ?_ _) | (with_reducible refine Kd.C_drewN ?_ _) | (with_reducible refine Kd.C_drew ?_))); (case side2 => exact (Kd.N_reads' HO_1.out).2.1); rintro e w52 ⟨v238, rfl, ho0, hb⟩; refine ⟨_, rfl, ?_⟩; have n0_ := Aside0.mk (Kd.N_elder' (by (with_reducible repeat (first | apply Kd.N_alloc | apply Kd.N_drewN | apply Kd.N_drew)); exact HO_1.out) (Kd.N_base (Kd.S_N ho0)) hb); have n1_ := Aside0.mk (Kd.N_elder' (by (with_reducible repeat (first | apply Kd.N_alloc | apply Kd.N_drewN | apply Kd.N_drew)); exact HO236.out) (Kd.N_base (Kd.S_N ho0)) hb); have n2_ := Aside0.mk (Kd.N_lower (Kd.N_mono (ok' := fun k_ => some k_ ≠ (.slice Ao51 t209.length co51 : Value).ownBlock ∧ some k_ ≠ (v235 : Value).ownBlock) (Kd.S_N (Kd.S_bound ho0)) (fun k_ hk_ => ⟨(Kd.fresh' (Kd.N_lt (by (with_reducible repeat (first | apply Kd.N_alloc | apply Kd.N_drewN | apply Kd.N_drew)); exact HO_1.out)) k_ hk_.2.1), (Kd.fresh' (Kd.N_lt (by (with_reducible repeat (first | apply Kd.N_alloc | apply Kd.N_drewN | apply Kd.N_drew)); exact HO236.out)) k_ hk_.2.1)⟩)) (zaj (by repeat (first | (with_reducible first | exact HB.out | apply zad | apply zab | apply zac) | exact HB.out)))); have n3_ := Aside0.mk (zan (by repeat (first | (with_reducible first | exact HB.out | apply zad | apply zab | apply zac) | exact HB.out)) hb); clear HO_1; clear HO236; clear HB; have HO_1 := n0_; have HO236 := n1_; have HO239 := n2_; have HB := n3_; clear n0_ n1_ n2_ n3_; (try clear hb); (try clear hb2); (try clear hk); (try clear hi); (try clear ho0); obtain ⟨Ao53, co53, eo53⟩ := Kd.N_slice HO239.out; subst eo53; obtain ⟨Ao54, co54, eo54⟩ := Kd.N_slice HO236.out; subst eo54) | ((with_reducible refine zas (f := 19) rfl ?_); refine zba (some 72) rfl rfl Tryd.func19 (by kernel_rfl) rfl #[.slice Ao53 t237.length co53, .slice Ao54 y234.length co54] rfl (by (try simp only [List.map_toArray, List.map_cons, List.map_nil]); first | done | rfl | (simp only [List.length_drop, List.length_take]; rfl)) ?_; (with_reducible refine (cofferref22_Same.calls _ _ t237 _ _ y234 false _ ?side1 ?side2 ?side3 ?side4 A28.out).mono ?_); (case side1 => repeat (first | exact (Kd.N_reads' HO239.out).2.2 | (with_reducible refine Kd.C_alloc ?_ _) | (with_reducible refine Kd.C_drewN ?_ _) | (with_reducible refine Kd.C_drew ?_))); (case side2 => exact (Kd.N_reads' HO239.out).2.1); (case side3 => repeat (first | exact (Kd.N_reads' HO236.out).2.2 | (with_reducible refine Kd.C_alloc ?_ _) | (with_reducible refine Kd.C_drewN ?_ _) | (with_reducible refine Kd.C_drew ?_))); (case side4 => exact (Kd.N_reads' HO236.out).2.1); rintro e w55 ⟨rfl, hb⟩; refine ⟨_, rfl, ?_⟩; have n0_ := Aside0.mk (Kd.N_below (by (with_reducible repeat (first | apply Kd.N_alloc | apply Kd.N_drewN | apply Kd.N_drew)); exact HO_1.out) hb); have n1_ := Aside0.mk (Kd.N_below (by (with_reducible repeat (first | apply Kd.N_alloc | apply Kd.N_drewN | apply Kd.N_drew)); exact HO236.out) hb); have n2_ := Aside0.mk (Kd.N_below (by (with_reducible repeat (first | apply Kd.N_alloc | apply Kd.N_drewN | apply Kd.N_drew)); exact HO239.out) hb); have n3_ := Aside0.mk (zan (by repeat (first | (with_reducible first | exact HB.out | apply zad | apply zab | apply zac) | exact HB.out)) hb); clear HO_1; clear HO236; clear HO239; clear HB; have HO_1 := n0_; have HO236 := n1_; have HO239 := n2_; have HB := n3_; clear n0_ n1_ n2_ n3_; (try clear hb); (try clear hb2); (try clear hk); (try clear hi)))
     go_ret
     exact ⟨by first | rfl | (simp [zal, zam] <;> rfl) | (simp [*, zal, zam] <;> rfl), by repeat (first | (with_reducible first | exact HB.out | apply zad | apply zab | apply zac) | exact HB.out)⟩

end Go.Proofs.YtdmlgligljagoaaDoor.PS

set_option linter.unusedVariables false
set_option linter.unusedSimpArgs false
namespace Go.Proofs.YtdmlgligljagoaaDoor
open Go.RowKit Go.Proofs.YtdmlgligljagoaaDoorW.PrintWords PS

theorem itoa_digit (n : Nat) (h : n < 10) : Lib.itoa (n : Int) = [UInt8.ofNat (48 + n)] := by rw [Lib.itoa_nonneg, Lib.decDigits_one h]
theorem itoa_m1 : Lib.itoa (-1) = [45, 49] := by
  have := Lib.itoa_neg 1 (by omega)
  rw [show (-((1 : Nat) : Int)) = -1 from rfl] at this
  rw [this, Lib.decDigits_one (by omega)]; rfl
def fc1 : S36 := ⟨2, 0, 0, ⟨1, ⟨#[97]⟩, ⟨#[]⟩, ⟨#[]⟩, [], 0, 0, []⟩, ⟨#[]⟩⟩
def fc2 : S36 := ⟨2, 0, 0, ⟨3, ⟨#[97]⟩, ⟨#[107]⟩, ⟨#[100]⟩, [⟨⟨#[116]⟩, ⟨#[120]⟩⟩], 0, 0, []⟩, ⟨#[]⟩⟩
def fc3 : S36 := ⟨2, 0, 0, ⟨18, ⟨#[]⟩, ⟨#[]⟩, ⟨#[]⟩, [], 0, 3, [0, 2]⟩, ⟨#[]⟩⟩
def ftext : List UInt8 := [109, 97, 107, 101, 32, 34, 97, 34, 10, 112, 117, 116, 32, 34, 97, 34, 32, 34, 107, 34, 32, 34, 100, 34, 32, 34, 116, 34, 32, 34, 120, 34, 10, 35, 10, 99, 114, 97, 115, 104, 32, 51, 32, 48, 32, 50]
theorem fl1 : lineT fc1 = [109, 97, 107, 101, 32, 34, 97, 34] := by decide +kernel
theorem fl2 : lineT fc2 = [112, 117, 116, 32, 34, 97, 34, 32, 34, 107, 34, 32, 34, 100, 34, 32, 34, 116, 34, 32, 34, 120, 34] := by decide +kernel
theorem fl3 : lineT fc3 = [99, 114, 97, 115, 104, 32, 51, 32, 48, 32, 50] := by
  have e3 : Lib.itoa 3 = [51] := itoa_digit 3 (by omega)
  have e0 : Lib.itoa 0 = [48] := itoa_digit 0 (by omega)
  have e2 : Lib.itoa 2 = [50] := itoa_digit 2 (by omega)
  have hp : partsV [110, 108] fc3.f3 = [bs (Lib.itoa 3), bs (Lib.itoa 0), bs (Lib.itoa 2)] := rfl
  have hs : stepL fc3.f3 = joinSp (⟨#[99, 114, 97, 115, 104]⟩ :: partsV [110, 108] fc3.f3) := rfl
  show (stepL fc3.f3).data.toList = _
  rw [hs, hp, e3, e0, e2]
  decide +kernel
theorem fcI (c : S36) (h : c = fc1 ∨ c = fc2 ∨ c = fc3) : KindOK c ∧ CmdI c ∧ clearC c = c := by
  rcases h with rfl | rfl | rfl
  · exact ⟨.inr (.inl ⟨rfl, by decide, by decide⟩), ⟨I64_0, I64_0, I64_0, I64_0, fun x hx => by simp [fc1] at hx⟩, rfl⟩
  · exact ⟨.inr (.inl ⟨rfl, by decide, by decide⟩), ⟨I64_0, I64_0, I64_0, I64_0, fun x hx => by simp [fc2] at hx⟩, rfl⟩
  · exact ⟨.inr (.inl ⟨rfl, by decide, by decide⟩), ⟨I64_0, I64_0, I64_0, by unfold I64; decide, fun x hx => by
      simp only [fc3, List.mem_cons, List.not_mem_nil, or_false] at hx
      rcases hx with rfl | rfl <;> (unfold I64; decide)⟩, rfl⟩
theorem fparse : zax ftext = ([fc1, fc2, fc3], 0) := by
  have hs : zaq ftext = [lineT fc1, lineT fc2, [35], lineT fc3] := by rw [fl1, fl2, fl3]; decide +kernel
  have hl : longV ftext = false := by decide +kernel
  obtain ⟨k1, i1, e1⟩ := fcI fc1 (.inl rfl)
  obtain ⟨k2, i2, e2⟩ := fcI fc2 (.inr (.inl rfl))
  obtain ⟨k3, i3, e3⟩ := fcI fc3 (.inr (.inr rfl))
  have g1 := parseG_lines [fc1, fc2] (fun c hc => by
    simp only [List.mem_cons, List.not_mem_nil, or_false] at hc
    rcases hc with rfl | rfl
    · exact ⟨k1, i1⟩
    · exact ⟨k2, i2⟩)
  have g3 := parseG_lines [fc3] (fun c hc => by rw [List.mem_singleton] at hc; subst hc; exact ⟨k3, i3⟩)
  unfold zax
  rw [hl, if_neg (by simp), hs, show [lineT fc1, lineT fc2, [35], lineT fc3] = [fc1, fc2].map lineT ++ ([[35]] ++ [fc3].map lineT) from rfl, parseG_app, parseG_app, g1, g3]
  simp only [Option.bind_some, List.map_cons, List.map_nil, e1, e2, e3]
  rfl
theorem f03 : zax [102, 97, 108, 108, 32, 48, 51] = ([], 110) := by
  have hb := fall_bad [48, 51] (by decide) (by simp) (by decide) (fun m _ e => by have := itoa_zero_head e.symm; simp at this)
  rw [parse_one (s := [102, 97, 108, 108, 32, 48, 51]) (by decide) (by simp) (by decide) (by decide)]
  rw [if_neg (by rw [show ([102, 97, 108, 108, 32, 48, 51] : List UInt8) = bFall ++ 32 :: [48, 51] from rfl, hb]; simp)]
def fp1 : S36 := ⟨2, 0, 0, ⟨17, ⟨#[]⟩, ⟨#[]⟩, ⟨#[]⟩, [], 0, -1, []⟩, ⟨#[]⟩⟩
def fp2 : S36 := ⟨4, 0, 0, ⟨0, ⟨#[]⟩, ⟨#[]⟩, ⟨#[]⟩, [], 0, 0, []⟩, ⟨#[]⟩⟩
def fp3 : S36 := ⟨6, 0, 0, ⟨0, ⟨#[]⟩, ⟨#[]⟩, ⟨#[]⟩, [], 0, 0, []⟩, ⟨#[]⟩⟩
theorem flp1 : lineT fp1 = [102, 97, 108, 108, 32, 45, 49] := by
  have hs : stepL fp1.f3 = joinSp (⟨#[102, 97, 108, 108]⟩ :: [bs (Lib.itoa (-1))]) := rfl
  show (stepL fp1.f3).data.toList = _
  rw [hs, itoa_m1]
  decide +kernel
theorem flp2 : lineT fp2 = [100, 105, 103, 101, 115, 116] := rfl
theorem ftx : textT [fp1, fp2] = [102, 97, 108, 108, 32, 45, 49, 10, 100, 105, 103, 101, 115, 116, 10] := by
  show lineT fp1 ++ [10] ++ (lineT fp2 ++ [10] ++ []) = _
  rw [flp1, flp2]; rfl
theorem fprint : script_Print.f [fp1, fp2] = some (bs [102, 97, 108, 108, 32, 45, 49, 10, 100, 105, 103, 101, 115, 116, 10], 0) := by
  have hok : PrintOK [fp1, fp2] := by
    refine ⟨fun c hc => ?_, by rw [ftx]; decide⟩
    simp only [List.mem_cons, List.not_mem_nil, or_false] at hc
    rcases hc with rfl | rfl
    · exact ⟨I64_0, I64_0, I64_0, by unfold I64; decide, fun x hx => by simp [fp1] at hx, by rw [flp1]; decide⟩
    · exact ⟨I64_0, I64_0, I64_0, I64_0, fun x hx => by simp [fp2] at hx, by rw [flp2]; decide⟩
  have hv : printV [fp1, fp2] = ([102, 97, 108, 108, 32, 45, 49, 10, 100, 105, 103, 101, 115, 116, 10], 0) := by
    rw [printV_ok _ (fun c hc => by
      simp only [List.mem_cons, List.not_mem_nil, or_false] at hc
      rcases hc with rfl | rfl
      · exact .inr (.inl ⟨rfl, by decide, by decide⟩)
      · exact .inr (.inr (.inr (.inl rfl)))), ftx, if_neg (by decide +kernel)]
  unfold script_Print.f
  rw [if_pos hok, hv]
theorem fprint3 : script_Print.f [fp3] = some (bs [], 110) := by
  have hok : PrintOK [fp3] := by
    refine ⟨fun c hc => ?_, by decide +kernel⟩
    rw [List.mem_singleton] at hc; subst hc
    exact ⟨I64_0, I64_0, I64_0, I64_0, fun x hx => by simp [fp3] at hx, by decide +kernel⟩
  have hv : printV [fp3] = ([], 110) := printV_bad _ (fun h => absurd (h fp3 List.mem_cons_self) (by decide))
  unfold script_Print.f
  rw [if_pos hok, hv]
theorem first_ev : Ev (fun k => cofferlaw22_first.f k) true := by
  have p1 := parse_ev ftext
  rw [fparse] at p1
  have p2 := parse_ev [102, 97, 108, 108, 32, 48, 51]
  rw [f03] at p2
  have q := quote_ev [0, 34, 97] (by decide)
  rw [show quoteL [0, 34, 97] = [34, 92, 120, 48, 48, 92, 34, 97, 34] from by decide +kernel] at q
  have t := told_ev [fc1, fc2, fc3] (parse_short fparse)
  have s := same_is ([fc1, fc2, fc3].map toldC) ([fc1, fc2, fc3].map toldC) (told_short (parse_short fparse))
  rw [decide_eq_true rfl] at s
  unfold cofferlaw22_first.f
  refine Ev.bind p1 (Ev.bind p2 ?_)
  refine Ev.congr (f := fun k => (script_Quote.f k (bs [0, 34, 97])).bind fun t => cofferlaw22_first.j0 k [fc1, fc2, fc3] (t.toList != ([34, 92, 120, 48, 48, 92, 34, 97, 34] : List UInt8))) (fun k => ?_) (Ev.bind q ?_)
  · show (script_Print.f [fp1, fp2]).bind _ = _
    rw [fprint, Option.bind_some]
    show (script_Print.f [fp3]).bind _ = _
    rw [fprint3, Option.bind_some]
    dsimp only
    rw [if_pos rfl, if_pos rfl, if_pos rfl, if_pos (zbm _), if_pos rfl, if_pos (by decide)]
    rfl
  · refine Ev.step (f := fun k => (cofferlaw22_told.f k [fc1, fc2, fc3]).bind fun t => (cofferref22_Same.f t ([fc1, fc2, fc3].map toldC)).bind fun b => if b = true then some true else some false) (fun k => ?_) (Ev.bind t ?_)
    · rw [cofferlaw22_first.j0, if_neg (by rw [zbm]; decide)]
      rfl
    · exact Ev.congr (fun k => by rw [s, Option.bind_some, if_pos rfl]) (Ev.now true)
end Go.Proofs.YtdmlgligljagoaaDoor

namespace Go.Proofs.YtdmlgligljagoaaDoor.PS
open Go.RowKit Go.Proofs.YtdmlgligljagoaaDoorW.PrintWords Go.Proofs.YtdmlgligljagoaaDoorW.PrintLast Go.Proofs.YtdmlgligljagoaaDoorW.PrintMore
attribute [local go_sem] zbi zbj max_two min_two zbg zbh zbk zbl   -- for this text's walks alone
set_option linter.unusedVariables false
set_option linter.unusedSimpArgs false

/-! ### cofferlaw22_few: function 20 -/
def cofferlaw22_few.l0 : Nat → ByteArray → Int → Int → Int → Option (Bool)
 | 0, _, _, _, _ => none
 | k + 1, x0, x3, x4, x5 => if x5 < (x0.size : Int) then (if 0 ≤ x5 then (if (bt x0 x5) = 10 then (cofferlaw22_few.l0 k x0 (wrap64 (x3 + 1)) 0 (wrap64 (x5 + 1))) else (if (wrap64 (x4 + 1)) > 8000 then (some false) else (cofferlaw22_few.l0 k x0 x3 (wrap64 (x4 + 1)) (wrap64 (x5 + 1))))) else (none)) else (if x3 < 300 then (some (decide ((x0.size : Int) < 25000))) else (some false))
def cofferlaw22_few.f (k : Nat) (a0 : ByteArray) : Option (Bool) := cofferlaw22_few.l0 k a0 0 0 0
theorem cofferlaw22_few.mono_l : ∀ k, (∀ y0 y1 y2 y3, LeO (cofferlaw22_few.l0 k y0 y1 y2 y3) (cofferlaw22_few.l0 (k + 1) y0 y1 y2 y3))
 | 0 => fun _ _ _ _ r h => by simp [cofferlaw22_few.l0] at h
 | k + 1 => by
  have ih0 := cofferlaw22_few.mono_l k
  ·
   intro y0 y1 y2 y3
   unfold cofferlaw22_few.l0
   repeat' first
   | (with_reducible exact ih0 _ _ _ _)
   | (with_reducible exact LeO.refl _)
   | (with_reducible exact LeO.none _)
   | (with_reducible refine LeO.ite ?_ ?_)
   | (with_reducible refine LeO.bind ?_ (fun _ => ?_))
   | exact ih0 _ _ _ _
   | exact LeO.none _
   | refine LeO.ite ?_ ?_
   | refine LeO.bind ?_ (fun _ => ?_)
theorem cofferlaw22_few.mono : ∀ a0 k, LeO (cofferlaw22_few.f k a0) (cofferlaw22_few.f (k + 1) a0) := by
 intro a0 k
 have ih0 := cofferlaw22_few.mono_l k
 unfold cofferlaw22_few.f
 repeat' first
   | (with_reducible exact ih0 _ _ _ _)
   | (with_reducible exact LeO.refl _)
   | (with_reducible exact LeO.none _)
   | (with_reducible refine LeO.ite ?_ ?_)
   | (with_reducible refine LeO.bind ?_ (fun _ => ?_))
   | exact ih0 _ _ _ _
   | exact LeO.none _
   | refine LeO.ite ?_ ?_
   | refine LeO.bind ?_ (fun _ => ?_)
set_option maxHeartbeats 8000000 in
set_option maxRecDepth 100000 in
theorem cofferlaw22_few.calls (k : Nat) (a0 : ByteArray) (r : Bool) (w : World) (h : cofferlaw22_few.f k a0 = some r) :
  Calls Tryd.prog 20 #[.string a0] w fun e w' => e = .returned (.bool r) ∧ Drawn0 w w' := by
 have H : (cofferlaw22_few.l0 k a0 0 0 0) = some r := h
 clear h
 have H' := Aside0.mk H
 clear H
 go_enter Tryd.func20, Tryd.ntmps20
 go_wp2
 go_loopg [3, 4, 5] k (fun kq v3 v4 v5 w' => ∃ (x3_1 : Int) (x4_1 : Int) (x5_1 : Int), v3 = .int .i64 x3_1 ∧ v4 = .int .i64 x4_1 ∧ v5 = .int .i64 x5_1 ∧ Aside0 (cofferlaw22_few.l0 kq a0 x3_1 x4_1 x5_1 = some r) ∧ Aside0 (kq ≤ k) ∧ Drawn0 w w')
 case atStart => exact ⟨(0), (0), (0), (by first | rfl | (simp; done) | (simp [*]; done)), (by first | rfl | (simp; done) | (simp [*]; done)), (by first | rfl | (simp; done) | (simp [*]; done)), H', ⟨Nat.le_refl _⟩, by repeat (first | exact Drawn0.refl _ | apply Drawn0.step)⟩
 case round =>
  clear H'
  obtain ⟨x3_1, x4_1, x5_1, rfl, rfl, rfl, HA, HK1, ⟨m1, rfl⟩⟩ := hrel
  cases gk with
  | zero => exact absurd HA.out (by simp [cofferlaw22_few.l0])
  | succ k1 =>
   have H := HA.out
   clear HA
   simp only [cofferlaw22_few.l0] at H
   by_cases c2 : x5_1 < (a0.size : Int)
   ·
    rw [if_pos c2] at H
    have c2b0 : decide (x5_1 < (a0.size : Int)) = true := decide_eq_true c2
    clear c2
    by_cases c3 : 0 ≤ x5_1
    ·
     rw [if_pos c3] at H
     have c3b0 : decide (0 ≤ x5_1) = true := decide_eq_true c3
     clear c3
     by_cases c5 : (bt a0 x5_1) = 10
     ·
      rw [if_pos c5] at H
      have c5b0 : ((bt a0 x5_1) == 10) = true := beq_iff_eq.mpr c5
      have c5b1 : ((bt a0 x5_1) != 10) = false := bne_eq_false_iff_eq.mpr c5
      clear c5
      have H' := Aside0.mk H
      clear H
      have p4 : 0 ≤ (x5_1 : Int) := of_decide_eq_true (by first | (with_reducible assumption) | assumption)
      have q4 : x5_1 < (a0.size : Int) := of_decide_eq_true (by first | (with_reducible assumption) | assumption)
      have hx4 := bt_at a0 x5_1
      replace p4 := eq_true p4
      replace q4 := eq_true q4
      go_wp2
      go_roundg k1
      case measure => have := HK1.out; omega
      case rel => exact ⟨(wrap64 (x3_1 + 1)), (0), (wrap64 (x5_1 + 1)), (by first | rfl | (simp; done) | (simp [*]; done)), (by first | rfl | (simp; done) | (simp [*]; done)), (by first | rfl | (simp; done) | (simp [*]; done)), H', ⟨by have := HK1.out; omega⟩, by repeat (first | exact Drawn0.refl _ | apply Drawn0.step)⟩
     ·
      rw [if_neg c5] at H
      have c5b0 : ((bt a0 x5_1) == 10) = false := beq_eq_false_iff_ne.mpr c5
      have c5b1 : ((bt a0 x5_1) != 10) = true := bne_iff_ne.mpr c5
      by_cases c6 : (wrap64 (x4_1 + 1)) > 8000
      ·
       rw [if_pos c6] at H
       have c6b0 : decide (8000 < (wrap64 (x4_1 + 1))) = true := decide_eq_true c6
       clear c6
       obtain rfl := Option.some.inj H
       have p4 : 0 ≤ (x5_1 : Int) := of_decide_eq_true (by first | (with_reducible assumption) | assumption)
       have q4 : x5_1 < (a0.size : Int) := of_decide_eq_true (by first | (with_reducible assumption) | assumption)
       have hx4 := bt_at a0 x5_1
       replace p4 := eq_true p4
       replace q4 := eq_true q4
       go_wp2
       go_ret
       exact ⟨by first | rfl | (simp; done) | (simp [*]; done), by repeat (first | exact Drawn0.refl _ | apply Drawn0.step)⟩
      ·
       rw [if_neg c6] at H
       have c6b0 : decide (8000 < (wrap64 (x4_1 + 1))) = false := decide_eq_false c6
       clear c6
       have H' := Aside0.mk H
       clear H
       have p4 : 0 ≤ (x5_1 : Int) := of_decide_eq_true (by first | (with_reducible assumption) | assumption)
       have q4 : x5_1 < (a0.size : Int) := of_decide_eq_true (by first | (with_reducible assumption) | assumption)
       have hx4 := bt_at a0 x5_1
       replace p4 := eq_true p4
       replace q4 := eq_true q4
       go_wp2
       go_roundg k1
       case measure => have := HK1.out; omega
       case rel => exact ⟨(x3_1), (wrap64 (x4_1 + 1)), (wrap64 (x5_1 + 1)), (by first | rfl | (simp; done) | (simp [*]; done)), (by first | rfl | (simp; done) | (simp [*]; done)), (by first | rfl | (simp; done) | (simp [*]; done)), H', ⟨by have := HK1.out; omega⟩, by repeat (first | exact Drawn0.refl _ | apply Drawn0.step)⟩
    ·
     rw [if_neg c3] at H
     exact absurd H (by simp)
   ·
    rw [if_neg c2] at H
    have c2b0 : decide (x5_1 < (a0.size : Int)) = false := decide_eq_false c2
    clear c2
    by_cases c7 : x3_1 < 300
    ·
     rw [if_pos c7] at H
     have c7b0 : decide (x3_1 < 300) = true := decide_eq_true c7
     clear c7
     obtain rfl := Option.some.inj H
     go_wp2
     go_ret
     exact ⟨by first | rfl | (simp; done) | (simp [*]; done), by repeat (first | exact Drawn0.refl _ | apply Drawn0.step)⟩
    ·
     rw [if_neg c7] at H
     have c7b0 : decide (x3_1 < 300) = false := decide_eq_false c7
     clear c7
     obtain rfl := Option.some.inj H
     go_wp2
     go_ret
     exact ⟨by first | rfl | (simp; done) | (simp [*]; done), by repeat (first | exact Drawn0.refl _ | apply Drawn0.step)⟩

end Go.Proofs.YtdmlgligljagoaaDoor.PS

namespace Go.Proofs.YtdmlgligljagoaaDoor.PS
open Go.RowKit Go.Proofs.YtdmlgligljagoaaDoorW.PrintWords Go.Proofs.YtdmlgligljagoaaDoorW.PrintLast Go.Proofs.YtdmlgligljagoaaDoorW.PrintMore
attribute [local go_sem] zbi zbj max_two min_two zbg zbh zbk zbl   -- for this text's walks alone
set_option linter.unusedVariables false
set_option linter.unusedSimpArgs false

/-! ### cofferlaw22_ended: function 21 -/
def cofferlaw22_ended.f (a0 : ByteArray) : Option (ByteArray) := if a0.toList = ([] : List UInt8) then (some a0) else (if 0 ≤ (wrap64 ((a0.size : Int) - 1)) then (if (wrap64 ((a0.size : Int) - 1)) < (a0.size : Int) then (if (bt a0 (wrap64 ((a0.size : Int) - 1))) = 10 then (some a0) else (if a0.size + 1 ≤ 9223372036854775807 then (some (a0 ++ (⟨#[10]⟩ : ByteArray))) else (none))) else (none)) else (none))
set_option maxHeartbeats 8000000 in
set_option maxRecDepth 100000 in
theorem cofferlaw22_ended.calls (a0 : ByteArray) (r : ByteArray) (w : World) (h : cofferlaw22_ended.f a0 = some r) :
  Calls Tryd.prog 21 #[.string a0] w fun e w' => e = .returned (.string r) ∧ Drawn0 w w' := by
 have H : (if a0.toList = ([] : List UInt8) then (some a0) else (if 0 ≤ (wrap64 ((a0.size : Int) - 1)) then (if (wrap64 ((a0.size : Int) - 1)) < (a0.size : Int) then (if (bt a0 (wrap64 ((a0.size : Int) - 1))) = 10 then (some a0) else (if a0.size + 1 ≤ 9223372036854775807 then (some (a0 ++ (⟨#[10]⟩ : ByteArray))) else (none))) else (none)) else (none))) = some r := h
 clear h
 by_cases c2 : a0.toList = ([] : List UInt8)
 ·
  rw [if_pos c2] at H
  have c2b0 : (a0.toList == ([] : List UInt8)) = true := beq_iff_eq.mpr c2
  have c2b1 : (a0.toList != ([] : List UInt8)) = false := bne_eq_false_iff_eq.mpr c2
  (try (have c2b2 : a0.toList.isEmpty = true := by simpa using c2))
  clear c2
  obtain rfl := Option.some.inj H
  go_enter Tryd.func21, Tryd.ntmps21
  go_wp2
  go_ret
  exact ⟨by first | rfl | (simp; done) | (simp [*]; done), by repeat (first | exact Drawn0.refl _ | apply Drawn0.step)⟩
 ·
  rw [if_neg c2] at H
  have c2b0 : (a0.toList == ([] : List UInt8)) = false := beq_eq_false_iff_ne.mpr c2
  have c2b1 : (a0.toList != ([] : List UInt8)) = true := bne_iff_ne.mpr c2
  (try (have c2b2 : a0.toList.isEmpty = false := by simpa using c2))
  obtain ⟨ji3, hji3⟩ : ∃ j_ : Int, (wrap64 ((a0.size : Int) - 1)) = j_ := ⟨_, rfl⟩
  replace H : (if 0 ≤ (ji3) then (if (ji3) < (a0.size : Int) then (if (bt a0 (ji3)) = 10 then (some a0) else (if a0.size + 1 ≤ 9223372036854775807 then (some (a0 ++ (⟨#[10]⟩ : ByteArray))) else (none))) else (none)) else (none)) = some r := by first | (rw [hji3] at H; exact H) | (simp only [hji3] at H ⊢; exact H)
  have hji3w : (IntKind.i64.wrap ((a0.size : Int) - 1)) = ji3 := (i64_w _).trans hji3
  by_cases c4 : 0 ≤ (ji3)
  ·
   rw [if_pos c4] at H
   have c4b0 : decide (0 ≤ (ji3)) = true := decide_eq_true c4
   clear c4
   by_cases c5 : (ji3) < (a0.size : Int)
   ·
    rw [if_pos c5] at H
    have c5b0 : decide ((ji3) < (a0.size : Int)) = true := decide_eq_true c5
    clear c5
    by_cases c7 : (bt a0 (ji3)) = 10
    ·
     rw [if_pos c7] at H
     have c7b0 : ((bt a0 (ji3)) == 10) = true := beq_iff_eq.mpr c7
     have c7b1 : ((bt a0 (ji3)) != 10) = false := bne_eq_false_iff_eq.mpr c7
     clear c7
     obtain rfl := Option.some.inj H
     have p6 : 0 ≤ ((ji3) : Int) := of_decide_eq_true (by first | (with_reducible assumption) | assumption)
     have q6 : (ji3) < (a0.size : Int) := of_decide_eq_true (by first | (with_reducible assumption) | assumption)
     have hx6 := bt_at a0 (ji3)
     replace p6 := eq_true p6
     replace q6 := eq_true q6
     go_enter Tryd.func21, Tryd.ntmps21
     go_wp2
     go_ret
     exact ⟨by first | rfl | (simp; done) | (simp only [← hji3] <;> (first | rfl | simp)) | (simp [*]; done), by repeat (first | exact Drawn0.refl _ | apply Drawn0.step)⟩
    ·
     rw [if_neg c7] at H
     have c7b0 : ((bt a0 (ji3)) == 10) = false := beq_eq_false_iff_ne.mpr c7
     have c7b1 : ((bt a0 (ji3)) != 10) = true := bne_iff_ne.mpr c7
     by_cases c8 : a0.size + 1 ≤ 9223372036854775807
     ·
      rw [if_pos c8] at H
      have c8b0 := eq_true c8
      have c8b1 : decide (a0.size + 1 ≤ 9223372036854775807) = true := decide_eq_true c8
      try have c8b2 : (9223372036854775807 < a0.size + 1) = False := eq_false (Nat.not_lt.2 c8)
      obtain rfl := Option.some.inj H
      have p6 : 0 ≤ ((ji3) : Int) := of_decide_eq_true (by first | (with_reducible assumption) | assumption)
      have q6 : (ji3) < (a0.size : Int) := of_decide_eq_true (by first | (with_reducible assumption) | assumption)
      have hx6 := bt_at a0 (ji3)
      replace p6 := eq_true p6
      replace q6 := eq_true q6
      go_enter Tryd.func21, Tryd.ntmps21
      go_wp2
      go_ret
      exact ⟨by first | rfl | (simp; done) | (simp only [← hji3] <;> (first | rfl | simp)) | (simp [*]; done), by repeat (first | exact Drawn0.refl _ | apply Drawn0.step)⟩
     ·
      rw [if_neg c8] at H
      exact absurd H (by simp)
   ·
    rw [if_neg c5] at H
    exact absurd H (by simp)
  ·
   rw [if_neg c4] at H
   exact absurd H (by simp)

end Go.Proofs.YtdmlgligljagoaaDoor.PS

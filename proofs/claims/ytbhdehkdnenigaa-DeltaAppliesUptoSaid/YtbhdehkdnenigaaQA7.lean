/- The law DeltaApplies of this seat: coffer/cofferlaw19.DeltaApplies returns true for every input, and its arguments read as they did.
The machine side of some functions of the law, as the kit's print wrote it for this claim: each function has the answers of a plain one.
Walks: the values below a number, and a number in its bounds.
Plain laws of sorted lists of versions: right values, their parts, and what is merged.
Plain laws: a right delta laid on a right value.
The law DeltaApplies: what the document's Apply computes, and that the law answers true where lists are not too long.
What a law's contract gives its row: true is told, and what came in reads as it did.
What comes in: a bucket's value, a delta, opened to rows of versions; what the row's weights say of them.
What the bound of the narrowed form says of a bucket's and a delta's lists: their lengths. -/
import Derived.Test.YtbhdehkdnenigaaProg
import Derived.WalkKit
import Derived.ProofKit
import Derived.OpenShut
import Derived.ShutString
import Derived.Deep.DeepHandedRow
import Derived.Lib.LaidTab
import Derived.Deep.Slices
import Derived.Deep.Fields
import Derived.ChangeSame
import Derived.SizedLaws
import Derived.Test.YtbhdehkdnenigaaRows
import Derived.JoinedCond
import Derived.Deep.CondSized
import Derived.Test.YtbhdehkdnenigaaQA6
namespace Go.Proofs.Ytbhdehkdnenigaa.PD4
open PDeltaLaid Go.RowKit Go.Proofs.YtbhdehkdnenigaaW.PrintWords Go.Proofs.YtbhdehkdnenigaaW.PrintLast Go.Proofs.YtbhdehkdnenigaaW.PrintMore
attribute [local go_sem] max2_int min2_int max_two min_two max_three min_three max_four min_four   -- for this text's walks alone
set_option linter.unusedVariables false
set_option linter.unusedSimpArgs false

set_option maxHeartbeats 8000000 in
set_option maxRecDepth 100000 in
theorem cofferlaw19_DeltaApplies.calls_way4 (k : Nat) (a0_0 : Int) (A0_1 : Option Go.Addr) (c0_1 : Nat) (l0_1 : List Go.Proofs.Ytbhdehkdnenigaa.PDeltaLaid.S48) (a1_0 : Int) (a1_1 : Int) (A1_2 : Option Go.Addr) (c1_2 : Nat) (l1_2 : List Go.Proofs.Ytbhdehkdnenigaa.PDeltaLaid.S48) (w : Go.World) (hu24 :  Go.Program.underlying Go.Proofs.Try.prog 24 = Option.some (Go.TypeDesc.struct #[{ name := "Next", type := 2, offset := 0, embedded := Bool.false, tag := "", pkgPath := "", byteOffset := 0 }, { name := "Versions", type := 22, offset := 1, embedded := Bool.false, tag := "", pkgPath := "", byteOffset := 8 }])) (hu27 :  Go.Program.underlying Go.Proofs.Try.prog 27 = Option.some (Go.TypeDesc.struct #[{ name := "Since", type := 2, offset := 0, embedded := Bool.false, tag := "", pkgPath := "", byteOffset := 0 }, { name := "Bucket", type := 24, offset := 1, embedded := Bool.false, tag := "", pkgPath := "", byteOffset := 8 }])) (HR0_1 :  Go.Proofs.YtbhdehkdnenigaaW.PrintWords.Aside0 (Go.Proofs.YtbhdehkdnenigaaW.PrintWords.Kd.C Go.Proofs.Ytbhdehkdnenigaa.PDeltaLaid.k48 w A0_1 (List.length l0_1) l0_1)) (HC0_1 : Go.Proofs.YtbhdehkdnenigaaW.PrintWords.Aside0 (List.length l0_1 ≤ c0_1)) (HR1_2 :  Go.Proofs.YtbhdehkdnenigaaW.PrintWords.Aside0 (Go.Proofs.YtbhdehkdnenigaaW.PrintWords.Kd.C Go.Proofs.Ytbhdehkdnenigaa.PDeltaLaid.k48 w A1_2 (List.length l1_2) l1_2)) (HC1_2 : Go.Proofs.YtbhdehkdnenigaaW.PrintWords.Aside0 (List.length l1_2 ≤ c1_2)) (HB : Go.Proofs.YtbhdehkdnenigaaW.PrintWords.Aside0 (Go.RowKit.Below (Array.size w.heap) w w)) (A3 :  Go.Proofs.YtbhdehkdnenigaaW.PrintWords.Aside0 (Go.Proofs.Ytbhdehkdnenigaa.PD4.cofferlaw19_first.f = Option.some Bool.true)) (t156 : Int) (t157 : List Go.Proofs.Ytbhdehkdnenigaa.PDeltaLaid.S48) (A5 :  Go.Proofs.YtbhdehkdnenigaaW.PrintWords.Aside0 (Go.Proofs.Ytbhdehkdnenigaa.PD4.cofferref15_Copy.f a1_1 l1_2 = Option.some (t156, t157))) (t162 : Bool) (A7 :  Go.Proofs.YtbhdehkdnenigaaW.PrintWords.Aside0 (Go.Proofs.Ytbhdehkdnenigaa.PD4.delta_Right.f a1_0 t156 t157 = Option.some t162)) (t163 : Int) (t164 : List Go.Proofs.Ytbhdehkdnenigaa.PDeltaLaid.S48) (A28 :  Go.Proofs.YtbhdehkdnenigaaW.PrintWords.Aside0 (Go.Proofs.Ytbhdehkdnenigaa.PD4.cofferref15_Copy.f a0_0 l0_1 = Option.some (t163, t164))) (t167 : Int) (t168 : List Go.Proofs.Ytbhdehkdnenigaa.PDeltaLaid.S48) (t171 : Int) (A29 :  Go.Proofs.YtbhdehkdnenigaaW.PrintWords.Aside0 (Go.Proofs.Ytbhdehkdnenigaa.PD4.delta_Apply.f t163 t164 a1_0 t156 t157 = Option.some (t167, t168, t171))) (t173 : Int) (t174 : List Go.Proofs.Ytbhdehkdnenigaa.PDeltaLaid.S48) (t177 : Int) (A30 :  Go.Proofs.YtbhdehkdnenigaaW.PrintWords.Aside0 (Go.Proofs.Ytbhdehkdnenigaa.PD4.cofferref19_Apply.f k a0_0 l0_1 a1_0 a1_1 l1_2 = Option.some (t173, t174, t177))) (A6 :  Go.Proofs.YtbhdehkdnenigaaW.PrintWords.Aside0 (Go.Proofs.Ytbhdehkdnenigaa.PD4.cofferref19_Right.f a1_0 a1_1 l1_2 = Option.some Bool.false)) (c8b0 : (t162 != Bool.false) = Bool.false) (c8b1 : Decidable.decide (t162 = Bool.false) = Bool.true) (c8b2 : (t162 == Bool.false) = Bool.true) (H : Option.some Bool.true = Option.some Bool.true) :
  Go.Calls Go.Proofs.Try.prog 4 #[Go.Value.agg #[Go.Value.int Go.IntKind.i64 a0_0, Go.Value.slice A0_1 (List.length l0_1) c0_1], Go.Value.agg #[Go.Value.int Go.IntKind.i64 a1_0, Go.Value.int Go.IntKind.i64 a1_1, Go.Value.slice A1_2 (List.length l1_2) c1_2]] w fun (e : Go.Ending) (w' : Go.World) => e = Go.Ending.returned (Go.Value.bool Bool.true) ∧ Go.RowKit.Below (Array.size w.heap) w w' := by
 go_enter Try.func4, Try.ntmps4
 try go_wp2_with (first | ((with_reducible refine gate_dst (N := 2) rfl ?_); refine box_event ?hg (N := 2) ?hd (cs := #[.int .i64 a0_0, .slice A0_1 l0_1.length c0_1]) (t := 24) ?hr ?_; (case hd => rfl); (case hg => rfl); (case hr => first | (go_simp; done) | (go_simp; rfl)); intro gb153 hg w166 hbox hb; have n0_ := Aside0.mk (below_step (by repeat (first | (with_reducible first | exact HB.out | apply below_alloc | apply pw_below_drewN | apply below_drew1) | exact HB.out)) hb); have n1_ := Aside0.mk (hbox); have n2_ := Aside0.mk ((by rw [hg]; exact (below_size (by repeat (first | (with_reducible first | exact HB.out | apply below_alloc | apply pw_below_drewN | apply below_drew1) | exact HB.out))) : w.heap.size ≤ gb153)); have n3_ := Aside0.mk ((by rw [hg]; exact (below_size (by repeat (first | (with_reducible first | exact HB.out | apply below_alloc | apply pw_below_drewN | apply below_drew1) | exact HB.out))) : w.heap.size ≤ gb153)); clear HB; have HB := n0_; have BK153 := n1_; have GW153 := n2_; have GE153 := n3_; clear n0_ n1_ n2_ n3_; clear hb hbox hg) | ((with_reducible refine gate_dst (N := 3) rfl ?_); refine box_event ?hg (N := 3) ?hd (cs := #[.int .i64 a1_0, .int .i64 a1_1, .slice A1_2 l1_2.length c1_2]) (t := 27) ?hr ?_; (case hd => rfl); (case hg => rfl); (case hr => first | (go_simp; done) | (go_simp; rfl)); intro gb154 hg w167 hbox hb; have n0_ := Aside0.mk (blk_below (g := gb153) (o := .cells #[.int .i64 a0_0, .slice A0_1 l0_1.length c0_1] 24 (0, 0)) (by (with_reducible repeat (first | refine blk_drewN ?_ _ | refine blk_drew ?_ | refine blk_alloc ?_ _)); exact BK153.out) hb); have n1_ := Aside0.mk (below_step (by repeat (first | (with_reducible first | exact HB.out | apply below_alloc | apply pw_below_drewN | apply below_drew1 | refine below_set ?_ GE153.out) | exact HB.out)) hb); have n2_ := Aside0.mk (hbox); have n3_ := Aside0.mk ((by rw [hg]; exact (below_size (by repeat (first | (with_reducible first | exact HB.out | apply below_alloc | apply pw_below_drewN | apply below_drew1 | refine below_set ?_ GE153.out) | exact HB.out))) : w.heap.size ≤ gb154)); have n4_ := Aside0.mk ((by rw [hg]; exact (below_size (by repeat (first | (with_reducible first | exact HB.out | apply below_alloc | apply pw_below_drewN | apply below_drew1 | refine below_set ?_ GE153.out) | exact HB.out))) : w.heap.size ≤ gb154)); have n5_ := Aside0.mk ((by rw [hg]; exact Nat.ne_of_lt (blk_lt (g := gb153) (o := .cells #[.int .i64 a0_0, .slice A0_1 l0_1.length c0_1] 24 (0, 0)) (by (with_reducible repeat (first | refine blk_drewN ?_ _ | refine blk_drew ?_ | refine blk_alloc ?_ _)); exact BK153.out)) : gb153 ≠ gb154)); have n6_ := Aside0.mk ((by rw [hg]; exact Nat.ne_of_gt (blk_lt (g := gb153) (o := .cells #[.int .i64 a0_0, .slice A0_1 l0_1.length c0_1] 24 (0, 0)) (by (with_reducible repeat (first | refine blk_drewN ?_ _ | refine blk_drew ?_ | refine blk_alloc ?_ _)); exact BK153.out)) : gb154 ≠ gb153)); clear BK153; clear HB; have BK153 := n0_; have HB := n1_; have BK154 := n2_; have GW154 := n3_; have GE154 := n4_; have NB153_154 := n5_; have NB154_153 := n6_; clear n0_ n1_ n2_ n3_ n4_ n5_ n6_; clear hb hbox hg) | ((with_reducible refine gate_callee (f := 8) rfl ?_); refine goesL_ (some 11) rfl rfl Try.func8 (by kernel_rfl) rfl #[] rfl (by (try simp only [List.map_toArray, List.map_cons, List.map_nil]); first | done | rfl | (simp only [List.length_drop, List.length_take]; rfl)) ?_; (with_reducible refine (cofferlaw19_first.calls  true _ A3.out).mono ?_); rintro e w168 ⟨rfl, hb⟩; refine ⟨_, rfl, ?_⟩; have n0_ := Aside0.mk (blk_below (g := gb153) (o := .cells #[.int .i64 a0_0, .slice A0_1 l0_1.length c0_1] 24 (0, 0)) (by (with_reducible repeat (first | refine blk_drewN ?_ _ | refine blk_drew ?_ | refine blk_alloc ?_ _)); exact BK153.out) hb); have n1_ := Aside0.mk (blk_below (g := gb154) (o := .cells #[.int .i64 a1_0, .int .i64 a1_1, .slice A1_2 l1_2.length c1_2] 27 (0, 0)) (by (with_reducible repeat (first | refine blk_drewN ?_ _ | refine blk_drew ?_ | refine blk_alloc ?_ _)); exact BK154.out) hb); have n2_ := Aside0.mk (below_step (by repeat (first | (with_reducible first | exact HB.out | apply below_alloc | apply pw_below_drewN | apply below_drew1 | refine below_set ?_ GE153.out | refine below_set ?_ GE154.out) | exact HB.out)) hb); clear BK153; clear BK154; clear HB; have BK153 := n0_; have BK154 := n1_; have HB := n2_; clear n0_ n1_ n2_; (try clear hb); (try clear hb2); (try clear hk); (try clear hi)))
 have n0_ := Aside0.mk (blk_drew BK153.out)
 have n1_ := Aside0.mk (blk_drew BK154.out)
 have n2_ := Aside0.mk (below_drew1 HB.out)
 clear BK153
 clear BK154
 clear HB
 have BK153 := n0_
 have BK154 := n1_
 have HB := n2_
 clear n0_ n1_ n2_
 refine start_ (n := 8) (S := fun w' => w'.cell? ⟨gb154, 0, none⟩ = some (.int .i64 a1_0) ∧ w'.cell? ⟨gb154, 1, none⟩ = some (.int .i64 a1_1) ∧ w'.cell? ⟨gb154, 2, none⟩ = some (.slice A1_2 l1_2.length c1_2)) (ds := []) #[false, false, false, false, false, false, false, false] (by kernel_rfl) rfl rfl ⟨(blk_cell BK154.out 0).trans rfl, (blk_cell BK154.out 1).trans rfl, (blk_cell BK154.out 2).trans rfl⟩ (fun hHeld => ?_); refine with_tabW cofferlaw19_DeltaApplies.tab3 cofferlaw19_DeltaApplies.bits3 (fun HT_ HW_ => ?_)
 generalize w168.drew = w169 at BK153 BK154 HB hHeld ⊢
 refine pure_ (i := 0) (N := some 13) (v := ?_) (a' := ?_) #[true, false, false, false, false, false, false, false] rfl rfl (any_of HT_.out (by kernel_rfl)) (fun _ _ _ h => h) (Or.inl ⟨by rfl, ?_⟩) ?_ ?_
 rotate_left
 ·
  intro w'
  go_simp
  with_reducible rfl
 rotate_left
 ·
  simp only [Act.put, List.setIfInBounds_toArray, List.set_cons_zero, List.set_cons_succ, i64_w, i32_w]
  rfl
 refine pure_ (i := 2) (N := some 15) (v := ?_) (a' := ?_) #[true, false, true, false, false, false, false, false] rfl rfl (any_of HT_.out (by kernel_rfl)) (fun _ _ _ h => h) (Or.inl ⟨by rfl, ?_⟩) ?_ ?_
 rotate_left
 ·
  intro w'
  go_simp
  with_reducible rfl
 rotate_left
 ·
  simp only [Act.put, List.setIfInBounds_toArray, List.set_cons_zero, List.set_cons_succ, i64_w, i32_w]
  rfl
 refine take_ (i := 1) (N := some 14) (v := ?_) (a' := ?_) #[true, true, true, false, false, false, false, false] rfl rfl (take_ofW HT_.out HW_.out (by kernel_rfl)) (fun _ _ _ h => h) (Or.inl ⟨by rfl, ?_⟩) hHeld ?_ ?_
 rotate_left
 ·
  rintro w' ⟨s0, s1, s2⟩
  go_simp
  with_reducible rfl
 rotate_left
 ·
  simp only [Act.put, List.setIfInBounds_toArray, List.set_cons_zero, List.set_cons_succ, i64_w, i32_w]
  rfl
 refine take_ (i := 3) (N := some 16) (v := ?_) (a' := ?_) #[true, true, true, true, false, false, false, false] rfl rfl (take_ofW HT_.out HW_.out (by kernel_rfl)) (fun _ _ _ h => h) (Or.inl ⟨by rfl, ?_⟩) hHeld ?_ ?_
 rotate_left
 ·
  rintro w' ⟨s0, s1, s2⟩
  go_simp
  with_reducible rfl
 rotate_left
 ·
  simp only [Act.put, List.setIfInBounds_toArray, List.set_cons_zero, List.set_cons_succ, i64_w, i32_w]
  rfl
 refine join_ (σ := Value × Nat) 1 #[true, true, true, true, true, true, true, false] (fun s_ => [(17, .agg #[.int .i64 t156, s_.1]), (5, .pointer (some ⟨s_.2, 0, none⟩)), (18, .agg #[.int .i64 a1_0, .int .i64 t156, s_.1])]) (fun s_ w' => (w'.cell? ⟨gb154, 0, none⟩ = some (.int .i64 a1_0) ∧ w'.cell? ⟨gb154, 1, none⟩ = some (.int .i64 a1_1) ∧ w'.cell? ⟨gb154, 2, none⟩ = some (.slice A1_2 l1_2.length c1_2)) ∧ (Kd.R k48 48 w' w.heap.size (fun _ => True) s_.1 t157) ∧ (w'.heap[gb153]? = some (.cells #[.int .i64 a0_0, .slice A0_1 l0_1.length c0_1] 24 (0, 0))) ∧ (w'.heap[gb154]? = some (.cells #[.int .i64 a1_0, .int .i64 a1_1, .slice A1_2 l1_2.length c1_2] 27 (0, 0))) ∧ (w'.heap[s_.2]? = some (.cells #[.int .i64 0, .int .i64 0, .slice none 0 0] 27 (0, 0))) ∧ (w.heap.size ≤ s_.2) ∧ (w.heap.size ≤ s_.2) ∧ (gb153 ≠ s_.2) ∧ (s_.2 ≠ gb153) ∧ (gb154 ≠ s_.2) ∧ (s_.2 ≠ gb154) ∧ (Below w.heap.size w w')) ?_ ?_
 rotate_left
 ·
  intro hCont
  refine two_ (i := 4) (j := 6) (Ni := some 17) (Nj := some 5) #[true, true, true, true, true, false, false, false] #[true, true, true, true, false, false, true, false] rfl rfl rfl rfl (two_of HT_.out (by kernel_rfl)) (by decide) (by decide) (fun K hK => ?_) (fun K hK => ?_)
  ·
   skip
   refine goes_ Try.func10 (by kernel_rfl) rfl #[.agg #[.int .i64 a1_1, .slice A1_2 l1_2.length c1_2]] (by rfl) rfl rfl (by (try simp only [List.map_toArray, List.map_cons, List.map_nil]); first | done | rfl | (simp only [List.length_drop, List.length_take]; rfl)) ?_
   with_reducible refine (cofferref15_Copy.calls a1_1 _ _ l1_2 t156 t157 _ ?side1 ?side2 A5.out).mono ?_
   (case side1 => repeat (first | exact (Kd.C_below HR1_2.out HB.out) | (with_reducible refine Kd.C_alloc ?_ _) | (with_reducible refine Kd.C_drewN ?_ _) | (with_reducible refine Kd.C_drew ?_)))
   (case side2 => exact HC1_2.out)
   rintro e w170 ⟨v158, rfl, ho0, hb⟩
   refine ⟨_, rfl, ?_⟩
   have n0_ := Aside0.mk (Kd.R_lower ho0 (below_size (by repeat (first | (with_reducible first | exact HB.out | apply below_alloc | apply pw_below_drewN | apply below_drew1 | refine below_set ?_ GE153.out | refine below_set ?_ GE154.out) | exact HB.out))))
   have n1_ := Aside0.mk (blk_below (g := gb153) (o := .cells #[.int .i64 a0_0, .slice A0_1 l0_1.length c0_1] 24 (0, 0)) (by (with_reducible repeat (first | refine blk_drewN ?_ _ | refine blk_drew ?_ | refine blk_alloc ?_ _)); exact BK153.out) hb)
   have n2_ := Aside0.mk (blk_below (g := gb154) (o := .cells #[.int .i64 a1_0, .int .i64 a1_1, .slice A1_2 l1_2.length c1_2] 27 (0, 0)) (by (with_reducible repeat (first | refine blk_drewN ?_ _ | refine blk_drew ?_ | refine blk_alloc ?_ _)); exact BK154.out) hb)
   have n3_ := Aside0.mk (below_step (by repeat (first | (with_reducible first | exact HB.out | apply below_alloc | apply pw_below_drewN | apply below_drew1 | refine below_set ?_ GE153.out | refine below_set ?_ GE154.out) | exact HB.out)) hb)
   clear BK153
   clear BK154
   clear HB
   have HO159 := n0_
   have BK153 := n1_
   have BK154 := n2_
   have HB := n3_
   clear n0_ n1_ n2_ n3_
   (try clear hb)
   (try clear hb2)
   (try clear hk)
   (try clear hi)
   (try clear ho0)
   obtain ⟨Ao171, co171, eo171⟩ := Kd.R_slice HO159.out
   (first | subst eo171 | (injection eo171 with f1_ f2_ f3_; have f4_ := f1_.symm; have f5_ := f3_.symm; clear f1_ f2_ f3_; subst f4_; subst f5_))
   refine hK.out _ _ ⟨(blk_cell BK154.out 0).trans rfl, (blk_cell BK154.out 1).trans rfl, (blk_cell BK154.out 2).trans rfl⟩ (fun hHeld => ?_)
   clear hK K
   refine norm_ (a' := ?_) ?_ ?_
   rotate_left
   ·
    show Act.put _ (some 17) _ = _
    simp only [Act.put, List.setIfInBounds_toArray, List.set_cons_zero, List.set_cons_succ, i64_w, i32_w]
    rfl
   refine pure_ (i := 5) (N := some 18) (v := ?_) (a' := ?_) #[true, true, true, true, true, true, false, false] rfl rfl (any_of HT_.out (by kernel_rfl)) (fun _ _ _ h => h) (Or.inl ⟨by rfl, ?_⟩) ?_ ?_
   rotate_left
   ·
    intro w'
    go_simp
    with_reducible rfl
   rotate_left
   ·
    simp only [Act.put, List.setIfInBounds_toArray, List.set_cons_zero, List.set_cons_succ, i64_w, i32_w]
    rfl
   refine one_ (i := 6) (N := some 5) #[true, true, true, true, true, true, true, false] rfl rfl (one_of HT_.out (by kernel_rfl)) (by decide) (fun K hK => ?_)
   refine box_step ?hg (N := 5) ?hd (cs := #[.int .i64 0, .int .i64 0, .slice none 0 0]) (t := 27) ?hr ?_; (case hd => rfl); (case hg => rfl); (case hr => first | (go_simp; done) | (go_simp; rfl))
   intro gb160 hg w172 hbox hb
   have n0_ := Aside0.mk (Kd.R_below (by (with_reducible repeat (first | apply Kd.R_alloc | apply Kd.R_drewN | apply Kd.R_drew)); exact HO159.out) hb)
   have n1_ := Aside0.mk (blk_below (g := gb153) (o := .cells #[.int .i64 a0_0, .slice A0_1 l0_1.length c0_1] 24 (0, 0)) (by (with_reducible repeat (first | refine blk_drewN ?_ _ | refine blk_drew ?_ | refine blk_alloc ?_ _)); exact BK153.out) hb)
   have n2_ := Aside0.mk (blk_below (g := gb154) (o := .cells #[.int .i64 a1_0, .int .i64 a1_1, .slice A1_2 l1_2.length c1_2] 27 (0, 0)) (by (with_reducible repeat (first | refine blk_drewN ?_ _ | refine blk_drew ?_ | refine blk_alloc ?_ _)); exact BK154.out) hb)
   have n3_ := Aside0.mk (below_step (by repeat (first | (with_reducible first | exact HB.out | apply below_alloc | apply pw_below_drewN | apply below_drew1 | refine below_set ?_ GE153.out | refine below_set ?_ GE154.out) | exact HB.out)) hb)
   have n4_ := Aside0.mk (hbox)
   have n5_ := Aside0.mk ((by rw [hg]; exact (below_size (by repeat (first | (with_reducible first | exact HB.out | apply below_alloc | apply pw_below_drewN | apply below_drew1 | refine below_set ?_ GE153.out | refine below_set ?_ GE154.out) | exact HB.out))) : w.heap.size ≤ gb160))
   have n6_ := Aside0.mk ((by rw [hg]; exact (below_size (by repeat (first | (with_reducible first | exact HB.out | apply below_alloc | apply pw_below_drewN | apply below_drew1 | refine below_set ?_ GE153.out | refine below_set ?_ GE154.out) | exact HB.out))) : w.heap.size ≤ gb160))
   have n7_ := Aside0.mk ((by rw [hg]; exact Nat.ne_of_lt (blk_lt (g := gb153) (o := .cells #[.int .i64 a0_0, .slice A0_1 l0_1.length c0_1] 24 (0, 0)) (by (with_reducible repeat (first | refine blk_drewN ?_ _ | refine blk_drew ?_ | refine blk_alloc ?_ _)); exact BK153.out)) : gb153 ≠ gb160))
   have n8_ := Aside0.mk ((by rw [hg]; exact Nat.ne_of_gt (blk_lt (g := gb153) (o := .cells #[.int .i64 a0_0, .slice A0_1 l0_1.length c0_1] 24 (0, 0)) (by (with_reducible repeat (first | refine blk_drewN ?_ _ | refine blk_drew ?_ | refine blk_alloc ?_ _)); exact BK153.out)) : gb160 ≠ gb153))
   have n9_ := Aside0.mk ((by rw [hg]; exact Nat.ne_of_lt (blk_lt (g := gb154) (o := .cells #[.int .i64 a1_0, .int .i64 a1_1, .slice A1_2 l1_2.length c1_2] 27 (0, 0)) (by (with_reducible repeat (first | refine blk_drewN ?_ _ | refine blk_drew ?_ | refine blk_alloc ?_ _)); exact BK154.out)) : gb154 ≠ gb160))
   have n10_ := Aside0.mk ((by rw [hg]; exact Nat.ne_of_gt (blk_lt (g := gb154) (o := .cells #[.int .i64 a1_0, .int .i64 a1_1, .slice A1_2 l1_2.length c1_2] 27 (0, 0)) (by (with_reducible repeat (first | refine blk_drewN ?_ _ | refine blk_drew ?_ | refine blk_alloc ?_ _)); exact BK154.out)) : gb160 ≠ gb154))
   clear HO159
   clear BK153
   clear BK154
   clear HB
   have HO159 := n0_
   have BK153 := n1_
   have BK154 := n2_
   have HB := n3_
   have BK160 := n4_
   have GW160 := n5_
   have GE160 := n6_
   have NB153_160 := n7_
   have NB160_153 := n8_
   have NB154_160 := n9_
   have NB160_154 := n10_
   clear n0_ n1_ n2_ n3_ n4_ n5_ n6_ n7_ n8_ n9_ n10_
   clear hb hbox hg
   refine hK.out _ _ ⟨(blk_cell BK154.out 0).trans rfl, (blk_cell BK154.out 1).trans rfl, (blk_cell BK154.out 2).trans rfl⟩ (fun hHeld => ?_)
   clear hK K
   refine norm_ (a' := ?_) ?_ ?_
   rotate_left
   ·
    show Act.put _ (some 5) _ = _
    simp only [Act.put, List.setIfInBounds_toArray, List.set_cons_zero, List.set_cons_succ, i64_w, i32_w]
    rfl
   exact norm_ (by simp only [putAll, Act.put, List.setIfInBounds_toArray, List.set_cons_zero, List.set_cons_succ]) (hCont (.slice Ao171 t157.length co171, gb160) _ ⟨hHeld, (by (with_reducible repeat (first | apply Kd.R_alloc | apply Kd.R_drewN | apply Kd.R_drew)); exact HO159.out), (by (with_reducible repeat (first | refine blk_drewN ?_ _ | refine blk_drew ?_ | refine blk_alloc ?_ _)); exact BK153.out), (by (with_reducible repeat (first | refine blk_drewN ?_ _ | refine blk_drew ?_ | refine blk_alloc ?_ _)); exact BK154.out), (by (with_reducible repeat (first | refine blk_drewN ?_ _ | refine blk_drew ?_ | refine blk_alloc ?_ _)); exact BK160.out), GW160.out, GE160.out, NB153_160.out, NB160_153.out, NB154_160.out, NB160_154.out, (by repeat (first | (with_reducible first | exact HB.out | apply below_alloc | apply pw_below_drewN | apply below_drew1 | refine below_set ?_ GE153.out | refine below_set ?_ GE154.out | refine below_set ?_ GE160.out) | exact HB.out))⟩)
  ·
   skip
   refine box_step ?hg (N := 5) ?hd (cs := #[.int .i64 0, .int .i64 0, .slice none 0 0]) (t := 27) ?hr ?_; (case hd => rfl); (case hg => rfl); (case hr => first | (go_simp; done) | (go_simp; rfl))
   intro gb160 hg w170 hbox hb
   have n0_ := Aside0.mk (blk_below (g := gb153) (o := .cells #[.int .i64 a0_0, .slice A0_1 l0_1.length c0_1] 24 (0, 0)) (by (with_reducible repeat (first | refine blk_drewN ?_ _ | refine blk_drew ?_ | refine blk_alloc ?_ _)); exact BK153.out) hb)
   have n1_ := Aside0.mk (blk_below (g := gb154) (o := .cells #[.int .i64 a1_0, .int .i64 a1_1, .slice A1_2 l1_2.length c1_2] 27 (0, 0)) (by (with_reducible repeat (first | refine blk_drewN ?_ _ | refine blk_drew ?_ | refine blk_alloc ?_ _)); exact BK154.out) hb)
   have n2_ := Aside0.mk (below_step (by repeat (first | (with_reducible first | exact HB.out | apply below_alloc | apply pw_below_drewN | apply below_drew1 | refine below_set ?_ GE153.out | refine below_set ?_ GE154.out) | exact HB.out)) hb)
   have n3_ := Aside0.mk (hbox)
   have n4_ := Aside0.mk ((by rw [hg]; exact (below_size (by repeat (first | (with_reducible first | exact HB.out | apply below_alloc | apply pw_below_drewN | apply below_drew1 | refine below_set ?_ GE153.out | refine below_set ?_ GE154.out) | exact HB.out))) : w.heap.size ≤ gb160))
   have n5_ := Aside0.mk ((by rw [hg]; exact (below_size (by repeat (first | (with_reducible first | exact HB.out | apply below_alloc | apply pw_below_drewN | apply below_drew1 | refine below_set ?_ GE153.out | refine below_set ?_ GE154.out) | exact HB.out))) : w.heap.size ≤ gb160))
   have n6_ := Aside0.mk ((by rw [hg]; exact Nat.ne_of_lt (blk_lt (g := gb153) (o := .cells #[.int .i64 a0_0, .slice A0_1 l0_1.length c0_1] 24 (0, 0)) (by (with_reducible repeat (first | refine blk_drewN ?_ _ | refine blk_drew ?_ | refine blk_alloc ?_ _)); exact BK153.out)) : gb153 ≠ gb160))
   have n7_ := Aside0.mk ((by rw [hg]; exact Nat.ne_of_gt (blk_lt (g := gb153) (o := .cells #[.int .i64 a0_0, .slice A0_1 l0_1.length c0_1] 24 (0, 0)) (by (with_reducible repeat (first | refine blk_drewN ?_ _ | refine blk_drew ?_ | refine blk_alloc ?_ _)); exact BK153.out)) : gb160 ≠ gb153))
   have n8_ := Aside0.mk ((by rw [hg]; exact Nat.ne_of_lt (blk_lt (g := gb154) (o := .cells #[.int .i64 a1_0, .int .i64 a1_1, .slice A1_2 l1_2.length c1_2] 27 (0, 0)) (by (with_reducible repeat (first | refine blk_drewN ?_ _ | refine blk_drew ?_ | refine blk_alloc ?_ _)); exact BK154.out)) : gb154 ≠ gb160))
   have n9_ := Aside0.mk ((by rw [hg]; exact Nat.ne_of_gt (blk_lt (g := gb154) (o := .cells #[.int .i64 a1_0, .int .i64 a1_1, .slice A1_2 l1_2.length c1_2] 27 (0, 0)) (by (with_reducible repeat (first | refine blk_drewN ?_ _ | refine blk_drew ?_ | refine blk_alloc ?_ _)); exact BK154.out)) : gb160 ≠ gb154))
   clear BK153
   clear BK154
   clear HB
   have BK153 := n0_
   have BK154 := n1_
   have HB := n2_
   have BK160 := n3_
   have GW160 := n4_
   have GE160 := n5_
   have NB153_160 := n6_
   have NB160_153 := n7_
   have NB154_160 := n8_
   have NB160_154 := n9_
   clear n0_ n1_ n2_ n3_ n4_ n5_ n6_ n7_ n8_ n9_
   clear hb hbox hg
   refine hK.out _ _ ⟨(blk_cell BK154.out 0).trans rfl, (blk_cell BK154.out 1).trans rfl, (blk_cell BK154.out 2).trans rfl⟩ (fun hHeld => ?_)
   clear hK K
   refine norm_ (a' := ?_) ?_ ?_
   rotate_left
   ·
    show Act.put _ (some 5) _ = _
    simp only [Act.put, List.setIfInBounds_toArray, List.set_cons_zero, List.set_cons_succ, i64_w, i32_w]
    rfl
   refine one_ (i := 4) (N := some 17) #[true, true, true, true, true, false, true, false] rfl rfl (one_of HT_.out (by kernel_rfl)) (by decide) (fun K hK => ?_)
   refine goes_ Try.func10 (by kernel_rfl) rfl #[.agg #[.int .i64 a1_1, .slice A1_2 l1_2.length c1_2]] (by rfl) rfl rfl (by (try simp only [List.map_toArray, List.map_cons, List.map_nil]); first | done | rfl | (simp only [List.length_drop, List.length_take]; rfl)) ?_
   with_reducible refine (cofferref15_Copy.calls a1_1 _ _ l1_2 t156 t157 _ ?side1 ?side2 A5.out).mono ?_
   (case side1 => repeat (first | exact (Kd.C_below HR1_2.out HB.out) | (with_reducible refine Kd.C_alloc ?_ _) | (with_reducible refine Kd.C_drewN ?_ _) | (with_reducible refine Kd.C_drew ?_)))
   (case side2 => exact HC1_2.out)
   rintro e w171 ⟨v158, rfl, ho0, hb⟩
   refine ⟨_, rfl, ?_⟩
   have n0_ := Aside0.mk (Kd.R_lower ho0 (below_size (by repeat (first | (with_reducible first | exact HB.out | apply below_alloc | apply pw_below_drewN | apply below_drew1 | refine below_set ?_ GE153.out | refine below_set ?_ GE154.out | refine below_set ?_ GE160.out) | exact HB.out))))
   have n1_ := Aside0.mk (blk_below (g := gb153) (o := .cells #[.int .i64 a0_0, .slice A0_1 l0_1.length c0_1] 24 (0, 0)) (by (with_reducible repeat (first | refine blk_drewN ?_ _ | refine blk_drew ?_ | refine blk_alloc ?_ _)); exact BK153.out) hb)
   have n2_ := Aside0.mk (blk_below (g := gb154) (o := .cells #[.int .i64 a1_0, .int .i64 a1_1, .slice A1_2 l1_2.length c1_2] 27 (0, 0)) (by (with_reducible repeat (first | refine blk_drewN ?_ _ | refine blk_drew ?_ | refine blk_alloc ?_ _)); exact BK154.out) hb)
   have n3_ := Aside0.mk (blk_below (g := gb160) (o := .cells #[.int .i64 0, .int .i64 0, .slice none 0 0] 27 (0, 0)) (by (with_reducible repeat (first | refine blk_drewN ?_ _ | refine blk_drew ?_ | refine blk_alloc ?_ _)); exact BK160.out) hb)
   have n4_ := Aside0.mk (below_step (by repeat (first | (with_reducible first | exact HB.out | apply below_alloc | apply pw_below_drewN | apply below_drew1 | refine below_set ?_ GE153.out | refine below_set ?_ GE154.out | refine below_set ?_ GE160.out) | exact HB.out)) hb)
   clear BK153
   clear BK154
   clear BK160
   clear HB
   have HO159 := n0_
   have BK153 := n1_
   have BK154 := n2_
   have BK160 := n3_
   have HB := n4_
   clear n0_ n1_ n2_ n3_ n4_
   (try clear hb)
   (try clear hb2)
   (try clear hk)
   (try clear hi)
   (try clear ho0)
   obtain ⟨Ao172, co172, eo172⟩ := Kd.R_slice HO159.out
   (first | subst eo172 | (injection eo172 with f1_ f2_ f3_; have f4_ := f1_.symm; have f5_ := f3_.symm; clear f1_ f2_ f3_; subst f4_; subst f5_))
   refine hK.out _ _ ⟨(blk_cell BK154.out 0).trans rfl, (blk_cell BK154.out 1).trans rfl, (blk_cell BK154.out 2).trans rfl⟩ (fun hHeld => ?_)
   clear hK K
   refine norm_ (a' := ?_) ?_ ?_
   rotate_left
   ·
    show Act.put _ (some 17) _ = _
    simp only [Act.put, List.setIfInBounds_toArray, List.set_cons_zero, List.set_cons_succ, i64_w, i32_w]
    rfl
   refine pure_ (i := 5) (N := some 18) (v := ?_) (a' := ?_) #[true, true, true, true, true, true, true, false] rfl rfl (any_of HT_.out (by kernel_rfl)) (fun _ _ _ h => h) (Or.inl ⟨by rfl, ?_⟩) ?_ ?_
   rotate_left
   ·
    intro w'
    go_simp
    with_reducible rfl
   rotate_left
   ·
    simp only [Act.put, List.setIfInBounds_toArray, List.set_cons_zero, List.set_cons_succ, i64_w, i32_w]
    rfl
   exact norm_ (by simp only [putAll, Act.put, List.setIfInBounds_toArray, List.set_cons_zero, List.set_cons_succ]) (hCont (.slice Ao172 t157.length co172, gb160) _ ⟨hHeld, (by (with_reducible repeat (first | apply Kd.R_alloc | apply Kd.R_drewN | apply Kd.R_drew)); exact HO159.out), (by (with_reducible repeat (first | refine blk_drewN ?_ _ | refine blk_drew ?_ | refine blk_alloc ?_ _)); exact BK153.out), (by (with_reducible repeat (first | refine blk_drewN ?_ _ | refine blk_drew ?_ | refine blk_alloc ?_ _)); exact BK154.out), (by (with_reducible repeat (first | refine blk_drewN ?_ _ | refine blk_drew ?_ | refine blk_alloc ?_ _)); exact BK160.out), GW160.out, GE160.out, NB153_160.out, NB160_153.out, NB154_160.out, NB160_154.out, (by repeat (first | (with_reducible first | exact HB.out | apply below_alloc | apply pw_below_drewN | apply below_drew1 | refine below_set ?_ GE153.out | refine below_set ?_ GE154.out | refine below_set ?_ GE160.out) | exact HB.out))⟩)
 rintro ⟨v158, gb160⟩ w173 ⟨hS_, h0_, h1_, h2_, h3_, h4_, h5_, h6_, h7_, h8_, h9_, h10_⟩
 have n0_ : Aside0 (Kd.R k48 48 w173 w.heap.size (fun _ => True) v158 t157) := ⟨h0_⟩
 have n1_ : Aside0 (w173.heap[gb153]? = some (.cells #[.int .i64 a0_0, .slice A0_1 l0_1.length c0_1] 24 (0, 0))) := ⟨h1_⟩
 have n2_ : Aside0 (w173.heap[gb154]? = some (.cells #[.int .i64 a1_0, .int .i64 a1_1, .slice A1_2 l1_2.length c1_2] 27 (0, 0))) := ⟨h2_⟩
 have n3_ : Aside0 (w173.heap[gb160]? = some (.cells #[.int .i64 0, .int .i64 0, .slice none 0 0] 27 (0, 0))) := ⟨h3_⟩
 have n4_ : Aside0 (w.heap.size ≤ gb160) := ⟨h4_⟩
 have n5_ : Aside0 (w.heap.size ≤ gb160) := ⟨h5_⟩
 have n6_ : Aside0 (gb153 ≠ gb160) := ⟨h6_⟩
 have n7_ : Aside0 (gb160 ≠ gb153) := ⟨h7_⟩
 have n8_ : Aside0 (gb154 ≠ gb160) := ⟨h8_⟩
 have n9_ : Aside0 (gb160 ≠ gb154) := ⟨h9_⟩
 have n10_ : Aside0 (Below w.heap.size w w173) := ⟨h10_⟩
 clear BK153
 clear BK154
 clear HB
 clear h0_ h1_ h2_ h3_ h4_ h5_ h6_ h7_ h8_ h9_ h10_
 have HO159 := n0_
 have BK153 := n1_
 have BK154 := n2_
 have BK160 := n3_
 have GW160 := n4_
 have GE160 := n5_
 have NB153_160 := n6_
 have NB160_153 := n7_
 have NB154_160 := n8_
 have NB160_154 := n9_
 have HB := n10_
 clear n0_ n1_ n2_ n3_ n4_ n5_ n6_ n7_ n8_ n9_ n10_
 have hHeld : w173.cell? ⟨gb154, 0, none⟩ = some (.int .i64 a1_0) ∧ w173.cell? ⟨gb154, 1, none⟩ = some (.int .i64 a1_1) ∧ w173.cell? ⟨gb154, 2, none⟩ = some (.slice A1_2 l1_2.length c1_2) := hS_
 obtain ⟨Ao174, co174, eo174⟩ := Kd.R_slice HO159.out
 (first | subst eo174 | (injection eo174 with f1_ f2_ f3_; have f4_ := f1_.symm; have f5_ := f3_.symm; clear f1_ f2_ f3_; subst f4_; subst f5_))
 refine norm_ (a' := ?_) ?_ ?_
 rotate_left
 ·
  simp only [putAll, Act.put, List.setIfInBounds_toArray, List.set_cons_zero, List.set_cons_succ]
  rfl
 refine one_ (i := 7) (N := none) #[true, true, true, true, true, true, true, true] rfl rfl (one_of HT_.out (by kernel_rfl)) (by decide) (fun K hK => ?_)
 have hs175 : w173.cell? ⟨gb160, 0, none⟩ = some (.int .i64 0) := (blk_cell BK160.out 0).trans rfl
 have hfs175 := blk_frozen BK160.out 0
 have hns175_0 := NB153_160.out
 have hns175_1 := NB154_160.out
 have hms175_0 := NB160_153.out
 have hms175_1 := NB160_154.out
 have hs176 : w173.cell? ⟨gb160, 1, none⟩ = some (.int .i64 0) := (blk_cell BK160.out 1).trans rfl
 have hfs176 := blk_frozen BK160.out 1
 have hns176_0 := NB153_160.out
 have hns176_1 := NB154_160.out
 have hms176_0 := NB160_153.out
 have hms176_1 := NB160_154.out
 have hs177 : w173.cell? ⟨gb160, 2, none⟩ = some (.slice none 0 0) := (blk_cell BK160.out 2).trans rfl
 have hfs177 := blk_frozen BK160.out 2
 have hns177_0 := NB153_160.out
 have hns177_1 := NB154_160.out
 have hms177_0 := NB160_153.out
 have hms177_1 := NB160_154.out
 refine skip_ (w1 := ?_) (by rfl) rfl ?_ ?_
 rotate_left
 ·
  go_simp
  rfl
 refine hK.out _ _ ⟨((cell_far (p := ⟨gb160, _, none⟩) NB154_160.out _).trans (((cell_far (p := ⟨gb160, _, none⟩) NB154_160.out _).trans (((cell_far (p := ⟨gb160, _, none⟩) NB154_160.out _).trans (hHeld.1)))))), ((cell_far (p := ⟨gb160, _, none⟩) NB154_160.out _).trans (((cell_far (p := ⟨gb160, _, none⟩) NB154_160.out _).trans (((cell_far (p := ⟨gb160, _, none⟩) NB154_160.out _).trans (hHeld.2.1)))))), ((cell_far (p := ⟨gb160, _, none⟩) NB154_160.out _).trans (((cell_far (p := ⟨gb160, _, none⟩) NB154_160.out _).trans (((cell_far (p := ⟨gb160, _, none⟩) NB154_160.out _).trans (hHeld.2.2))))))⟩ (fun hHeld => ?_)
 clear hK K
 refine done_ (done_of HT_.out (by kernel_rfl)) ?_
 have hnb178 := NB154_153.out
 have hnc178 := NB153_154.out
 have hnb179 := NB154_160.out
 have hnc179 := NB160_154.out
 have hcz180_0 : w173.cell? ⟨gb154, 0, none⟩ = some (.int .i64 a1_0) := (blk_cell BK154.out 0).trans rfl
 have hcz180_1 : w173.cell? ⟨gb154, 1, none⟩ = some (.int .i64 a1_1) := (blk_cell BK154.out 1).trans rfl
 have hcz180_2 : w173.cell? ⟨gb154, 2, none⟩ = some (.slice A1_2 l1_2.length c1_2) := (blk_cell BK154.out 2).trans rfl
 have hfz180_0 := blk_frozen BK154.out 0
 have hfz180_1 := blk_frozen BK154.out 1
 have hfz180_2 := blk_frozen BK154.out 2
 try go_wp2_with (first | ((with_reducible refine gate_callee (f := 14) rfl ?_); refine goesL_ (some 20) rfl rfl Try.func14 (by kernel_rfl) rfl #[.agg #[.int .i64 a1_0, .int .i64 a1_1, .slice A1_2 l1_2.length c1_2]] rfl (by (try simp only [List.map_toArray, List.map_cons, List.map_nil]); first | done | rfl | (simp only [List.length_drop, List.length_take]; rfl)) ?_; (with_reducible refine (cofferref19_Right.calls a1_0 a1_1 _ _ l1_2 false _ ?side1 ?side2 A6.out).mono ?_); (case side1 => exact Kd.C_below HR1_2.out (by repeat (first | (with_reducible first | exact HB.out | apply below_alloc | apply pw_below_drewN | apply below_drew1 | refine below_set ?_ GE153.out | refine below_set ?_ GE154.out | refine below_set ?_ GE160.out) | exact HB.out))); (case side2 => exact HC1_2.out); rintro e w181 ⟨rfl, hb⟩; refine ⟨_, rfl, ?_⟩; have n0_ := Aside0.mk (Kd.R_below (by (with_reducible repeat (first | apply Kd.R_alloc | apply Kd.R_drewN | apply Kd.R_drew)); exact (Kd.R_mono (Kd.R_far (p := ⟨gb160, 2, none⟩) (Kd.R_far (p := ⟨gb160, 1, none⟩) (Kd.R_far (p := ⟨gb160, 0, none⟩) (Kd.R_types HO159.out BK160.out (by decide)) (fun _ hk => hk.2) (.int .i64 a1_0)) (fun _ hk => hk.2) (.int .i64 t156)) (fun _ hk => hk.2) (.slice Ao174 t157.length co174)) (fun _ h_ => h_.1))) hb); have n1_ := Aside0.mk (blk_below (g := gb153) (o := .cells #[.int .i64 a0_0, .slice A0_1 l0_1.length c0_1] 24 (0, 0)) (by (with_reducible repeat (first | refine blk_drewN ?_ _ | refine blk_drew ?_ | refine blk_alloc ?_ _)); refine blk_far ?_ NB153_160.out _; (with_reducible repeat (first | refine blk_drewN ?_ _ | refine blk_drew ?_ | refine blk_alloc ?_ _)); refine blk_far ?_ NB153_160.out _; (with_reducible repeat (first | refine blk_drewN ?_ _ | refine blk_drew ?_ | refine blk_alloc ?_ _)); refine blk_far ?_ NB153_160.out _; (with_reducible repeat (first | refine blk_drewN ?_ _ | refine blk_drew ?_ | refine blk_alloc ?_ _)); exact BK153.out) hb); have n2_ := Aside0.mk (blk_below (g := gb154) (o := .cells #[.int .i64 a1_0, .int .i64 a1_1, .slice A1_2 l1_2.length c1_2] 27 (0, 0)) (by (with_reducible repeat (first | refine blk_drewN ?_ _ | refine blk_drew ?_ | refine blk_alloc ?_ _)); refine blk_far ?_ NB154_160.out _; (with_reducible repeat (first | refine blk_drewN ?_ _ | refine blk_drew ?_ | refine blk_alloc ?_ _)); refine blk_far ?_ NB154_160.out _; (with_reducible repeat (first | refine blk_drewN ?_ _ | refine blk_drew ?_ | refine blk_alloc ?_ _)); refine blk_far ?_ NB154_160.out _; (with_reducible repeat (first | refine blk_drewN ?_ _ | refine blk_drew ?_ | refine blk_alloc ?_ _)); exact BK154.out) hb); have n3_ := Aside0.mk (blk_below (g := gb160) (o := .cells #[.int .i64 a1_0, .int .i64 t156, .slice Ao174 t157.length co174] 27 (0, 0)) (by (with_reducible repeat (first | refine blk_drewN ?_ _ | refine blk_drew ?_ | refine blk_alloc ?_ _)); refine blk_put (cs := #[.int .i64 a1_0, .int .i64 t156, .slice none 0 0]) ?_ 2 _ rfl; (with_reducible repeat (first | refine blk_drewN ?_ _ | refine blk_drew ?_ | refine blk_alloc ?_ _)); refine blk_put (cs := #[.int .i64 a1_0, .int .i64 0, .slice none 0 0]) ?_ 1 _ rfl; (with_reducible repeat (first | refine blk_drewN ?_ _ | refine blk_drew ?_ | refine blk_alloc ?_ _)); refine blk_put (cs := #[.int .i64 0, .int .i64 0, .slice none 0 0]) ?_ 0 _ rfl; (with_reducible repeat (first | refine blk_drewN ?_ _ | refine blk_drew ?_ | refine blk_alloc ?_ _)); exact BK160.out) hb); have n4_ := Aside0.mk (below_step (by repeat (first | (with_reducible first | exact HB.out | apply below_alloc | apply pw_below_drewN | apply below_drew1 | refine below_set ?_ GE153.out | refine below_set ?_ GE154.out | refine below_set ?_ GE160.out) | exact HB.out)) hb); clear HO159; clear BK153; clear BK154; clear BK160; clear HB; have HO159 := n0_; have BK153 := n1_; have BK154 := n2_; have BK160 := n3_; have HB := n4_; clear n0_ n1_ n2_ n3_ n4_; (try clear hb); (try clear hb2); (try clear hk); (try clear hi); have hnb182 := NB160_153.out; have hnc182 := NB153_160.out; have hcz183_0 : w181.cell? ⟨gb160, 0, none⟩ = some (.int .i64 a1_0) := (blk_cell BK160.out 0).trans rfl; have hcz183_1 : w181.cell? ⟨gb160, 1, none⟩ = some (.int .i64 t156) := (blk_cell BK160.out 1).trans rfl; have hcz183_2 : w181.cell? ⟨gb160, 2, none⟩ = some (.slice Ao174 t157.length co174) := (blk_cell BK160.out 2).trans rfl; have hfz183_0 := blk_frozen BK160.out 0; have hfz183_1 := blk_frozen BK160.out 1; have hfz183_2 := blk_frozen BK160.out 2) | ((with_reducible refine gate_callee (f := 15) rfl ?_); refine goesL_ (some 22) rfl rfl Try.func15 (by kernel_rfl) rfl #[.agg #[.int .i64 a1_0, .int .i64 t156, .slice Ao174 t157.length co174]] rfl (by (try simp only [List.map_toArray, List.map_cons, List.map_nil]); first | done | rfl | (simp only [List.length_drop, List.length_take]; rfl)) ?_; (with_reducible refine (delta_Right.calls a1_0 t156 _ _ t157 t162 _ ?side1 ?side2 A7.out).mono ?_); (case side1 => repeat (first | exact (Kd.R_reads' HO159.out).2.2 | (with_reducible refine Kd.C_alloc ?_ _) | (with_reducible refine Kd.C_drewN ?_ _) | (with_reducible refine Kd.C_drew ?_))); (case side2 => exact (Kd.R_reads' HO159.out).2.1); rintro e w184 ⟨rfl, hb⟩; refine ⟨_, rfl, ?_⟩; have n0_ := Aside0.mk (Kd.R_below (by (with_reducible repeat (first | apply Kd.R_alloc | apply Kd.R_drewN | apply Kd.R_drew)); exact HO159.out) hb); have n1_ := Aside0.mk (blk_below (g := gb153) (o := .cells #[.int .i64 a0_0, .slice A0_1 l0_1.length c0_1] 24 (0, 0)) (by (with_reducible repeat (first | refine blk_drewN ?_ _ | refine blk_drew ?_ | refine blk_alloc ?_ _)); exact BK153.out) hb); have n2_ := Aside0.mk (blk_below (g := gb154) (o := .cells #[.int .i64 a1_0, .int .i64 a1_1, .slice A1_2 l1_2.length c1_2] 27 (0, 0)) (by (with_reducible repeat (first | refine blk_drewN ?_ _ | refine blk_drew ?_ | refine blk_alloc ?_ _)); exact BK154.out) hb); have n3_ := Aside0.mk (blk_below (g := gb160) (o := .cells #[.int .i64 a1_0, .int .i64 t156, .slice Ao174 t157.length co174] 27 (0, 0)) (by (with_reducible repeat (first | refine blk_drewN ?_ _ | refine blk_drew ?_ | refine blk_alloc ?_ _)); exact BK160.out) hb); have n4_ := Aside0.mk (below_step (by repeat (first | (with_reducible first | exact HB.out | apply below_alloc | apply pw_below_drewN | apply below_drew1 | refine below_set ?_ GE153.out | refine below_set ?_ GE154.out | refine below_set ?_ GE160.out) | exact HB.out)) hb); clear HO159; clear BK153; clear BK154; clear BK160; clear HB; have HO159 := n0_; have BK153 := n1_; have BK154 := n2_; have BK160 := n3_; have HB := n4_; clear n0_ n1_ n2_ n3_ n4_; (try clear hb); (try clear hb2); (try clear hk); (try clear hi)))
 have n0_ := Aside0.mk (Kd.R_drew HO159.out)
 have n1_ := Aside0.mk (blk_drew BK153.out)
 have n2_ := Aside0.mk (blk_drew BK154.out)
 have n3_ := Aside0.mk (blk_drew BK160.out)
 have n4_ := Aside0.mk (below_drew1 HB.out)
 clear HO159
 clear BK153
 clear BK154
 clear BK160
 clear HB
 have HO159 := n0_
 have BK153 := n1_
 have BK154 := n2_
 have BK160 := n3_
 have HB := n4_
 clear n0_ n1_ n2_ n3_ n4_
 refine start_ (n := 10) (S := fun w' => w'.cell? ⟨gb153, 0, none⟩ = some (.int .i64 a0_0) ∧ w'.cell? ⟨gb153, 1, none⟩ = some (.slice A0_1 l0_1.length c0_1) ∧ w'.cell? ⟨gb160, 0, none⟩ = some (.int .i64 a1_0) ∧ w'.cell? ⟨gb160, 1, none⟩ = some (.int .i64 t156) ∧ w'.cell? ⟨gb160, 2, none⟩ = some (.slice Ao174 t157.length co174)) (ds := []) #[false, false, false, false, false, false, false, false, false, false] (by kernel_rfl) rfl rfl ⟨(blk_cell BK153.out 0).trans rfl, (blk_cell BK153.out 1).trans rfl, (blk_cell BK160.out 0).trans rfl, (blk_cell BK160.out 1).trans rfl, (blk_cell BK160.out 2).trans rfl⟩ (fun hHeld => ?_); refine with_tabW cofferlaw19_DeltaApplies.tab7 cofferlaw19_DeltaApplies.bits7 (fun HT_ HW_ => ?_)
 generalize w184.drew = w185 at HO159 BK153 BK154 BK160 HB hHeld ⊢
 refine take_ (i := 0) (N := some 26) (v := ?_) (a' := ?_) #[true, false, false, false, false, false, false, false, false, false] rfl rfl (take_ofW HT_.out HW_.out (by kernel_rfl)) (fun _ _ _ h => h) (Or.inl ⟨by rfl, ?_⟩) hHeld ?_ ?_
 rotate_left
 ·
  rintro w' ⟨s0, s1, s2, s3, s4⟩
  go_simp
  with_reducible rfl
 rotate_left
 ·
  simp only [Act.put, List.setIfInBounds_toArray, List.set_cons_zero, List.set_cons_succ, i64_w, i32_w]
  rfl
 refine take_ (i := 2) (N := some 28) (v := ?_) (a' := ?_) #[true, false, true, false, false, false, false, false, false, false] rfl rfl (take_ofW HT_.out HW_.out (by kernel_rfl)) (fun _ _ _ h => h) (Or.inl ⟨by rfl, ?_⟩) hHeld ?_ ?_
 rotate_left
 ·
  rintro w' ⟨s0, s1, s2, s3, s4⟩
  go_simp
  with_reducible rfl
 rotate_left
 ·
  simp only [Act.put, List.setIfInBounds_toArray, List.set_cons_zero, List.set_cons_succ, i64_w, i32_w]
  rfl
 refine join_ (σ := Value × Value × Nat) 2 #[true, true, true, true, true, true, true, true, false, false] (fun s_ => [(27, .agg #[.int .i64 t163, s_.1]), (29, .tuple #[.agg #[.int .i64 t167, s_.2.1], .int .i64 t171]), (7, .pointer (some ⟨s_.2.2, 0, none⟩)), (25, .tuple #[.agg #[.int .i64 t167, s_.2.1], .int .i64 t171]), (30, .agg #[.int .i64 t167, s_.2.1]), (31, .int .i64 t171)]) (fun s_ w' => (w'.cell? ⟨gb153, 0, none⟩ = some (.int .i64 a0_0) ∧ w'.cell? ⟨gb153, 1, none⟩ = some (.slice A0_1 l0_1.length c0_1) ∧ w'.cell? ⟨gb160, 0, none⟩ = some (.int .i64 a1_0) ∧ w'.cell? ⟨gb160, 1, none⟩ = some (.int .i64 t156) ∧ w'.cell? ⟨gb160, 2, none⟩ = some (.slice Ao174 t157.length co174)) ∧ (Kd.R k48 48 w' w.heap.size (fun k_ => some k_ ≠ (s_.1 : Value).ownBlock ∧ some k_ ≠ (s_.2.1 : Value).ownBlock) (.slice Ao174 t157.length co174) t157) ∧ (Kd.R k48 48 w' w.heap.size (fun k_ => some k_ ≠ (.slice Ao174 t157.length co174 : Value).ownBlock ∧ some k_ ≠ (s_.2.1 : Value).ownBlock) s_.1 t164) ∧ (Kd.R k48 48 w' w.heap.size (fun k_ => some k_ ≠ (.slice Ao174 t157.length co174 : Value).ownBlock ∧ some k_ ≠ (s_.1 : Value).ownBlock) s_.2.1 t168) ∧ (w'.heap[gb153]? = some (.cells #[.int .i64 a0_0, .slice A0_1 l0_1.length c0_1] 24 (0, 0))) ∧ (w'.heap[gb154]? = some (.cells #[.int .i64 a1_0, .int .i64 a1_1, .slice A1_2 l1_2.length c1_2] 27 (0, 0))) ∧ (w'.heap[gb160]? = some (.cells #[.int .i64 a1_0, .int .i64 t156, .slice Ao174 t157.length co174] 27 (0, 0))) ∧ (w'.heap[s_.2.2]? = some (.cells #[.int .i64 0, .slice none 0 0] 24 (0, 0))) ∧ (w.heap.size ≤ s_.2.2) ∧ (w.heap.size ≤ s_.2.2) ∧ (gb153 ≠ s_.2.2) ∧ (s_.2.2 ≠ gb153) ∧ (gb154 ≠ s_.2.2) ∧ (s_.2.2 ≠ gb154) ∧ (gb160 ≠ s_.2.2) ∧ (s_.2.2 ≠ gb160) ∧ (Below w.heap.size w w')) ?_ ?_
 rotate_left
 ·
  intro hCont
  refine two_ (i := 1) (j := 7) (Ni := some 27) (Nj := some 7) #[true, true, true, false, false, false, false, false, false, false] #[true, false, true, false, false, false, false, true, false, false] rfl rfl rfl rfl (two_of HT_.out (by kernel_rfl)) (by decide) (by decide) (fun K hK => ?_) (fun K hK => ?_)
  ·
   skip
   refine goes_ Try.func10 (by kernel_rfl) rfl #[.agg #[.int .i64 a0_0, .slice A0_1 l0_1.length c0_1]] (by rfl) rfl rfl (by (try simp only [List.map_toArray, List.map_cons, List.map_nil]); first | done | rfl | (simp only [List.length_drop, List.length_take]; rfl)) ?_
   with_reducible refine (cofferref15_Copy.calls a0_0 _ _ l0_1 t163 t164 _ ?side1 ?side2 A28.out).mono ?_
   (case side1 => repeat (first | exact (Kd.C_below HR0_1.out HB.out) | (with_reducible refine Kd.C_alloc ?_ _) | (with_reducible refine Kd.C_drewN ?_ _) | (with_reducible refine Kd.C_drew ?_)))
   (case side2 => exact HC0_1.out)
   rintro e w186 ⟨v165, rfl, ho0, hb⟩
   refine ⟨_, rfl, ?_⟩
   have n0_ := Aside0.mk (Kd.R_elder' (by (with_reducible repeat (first | apply Kd.R_alloc | apply Kd.R_drewN | apply Kd.R_drew)); exact HO159.out) (Kd.R_base ho0) hb)
   have n1_ := Aside0.mk (Kd.R_lower (Kd.R_new' ho0 (Kd.R_lt (by (with_reducible repeat (first | apply Kd.R_alloc | apply Kd.R_drewN | apply Kd.R_drew)); exact HO159.out))) (below_size (by repeat (first | (with_reducible first | exact HB.out | apply below_alloc | apply pw_below_drewN | apply below_drew1 | refine below_set ?_ GE153.out | refine below_set ?_ GE154.out | refine below_set ?_ GE160.out) | exact HB.out))))
   have n2_ := Aside0.mk (blk_below (g := gb153) (o := .cells #[.int .i64 a0_0, .slice A0_1 l0_1.length c0_1] 24 (0, 0)) (by (with_reducible repeat (first | refine blk_drewN ?_ _ | refine blk_drew ?_ | refine blk_alloc ?_ _)); exact BK153.out) hb)
   have n3_ := Aside0.mk (blk_below (g := gb154) (o := .cells #[.int .i64 a1_0, .int .i64 a1_1, .slice A1_2 l1_2.length c1_2] 27 (0, 0)) (by (with_reducible repeat (first | refine blk_drewN ?_ _ | refine blk_drew ?_ | refine blk_alloc ?_ _)); exact BK154.out) hb)
   have n4_ := Aside0.mk (blk_below (g := gb160) (o := .cells #[.int .i64 a1_0, .int .i64 t156, .slice Ao174 t157.length co174] 27 (0, 0)) (by (with_reducible repeat (first | refine blk_drewN ?_ _ | refine blk_drew ?_ | refine blk_alloc ?_ _)); exact BK160.out) hb)
   have n5_ := Aside0.mk (below_step (by repeat (first | (with_reducible first | exact HB.out | apply below_alloc | apply pw_below_drewN | apply below_drew1 | refine below_set ?_ GE153.out | refine below_set ?_ GE154.out | refine below_set ?_ GE160.out) | exact HB.out)) hb)
   clear HO159
   clear BK153
   clear BK154
   clear BK160
   clear HB
   have HO159 := n0_
   have HO166 := n1_
   have BK153 := n2_
   have BK154 := n3_
   have BK160 := n4_
   have HB := n5_
   clear n0_ n1_ n2_ n3_ n4_ n5_
   (try clear hb)
   (try clear hb2)
   (try clear hk)
   (try clear hi)
   (try clear ho0)
   obtain ⟨Ao187, co187, eo187⟩ := Kd.R_slice HO166.out
   (first | subst eo187 | (injection eo187 with f1_ f2_ f3_; have f4_ := f1_.symm; have f5_ := f3_.symm; clear f1_ f2_ f3_; subst f4_; subst f5_))
   refine hK.out _ _ ⟨(blk_cell BK153.out 0).trans rfl, (blk_cell BK153.out 1).trans rfl, (blk_cell BK160.out 0).trans rfl, (blk_cell BK160.out 1).trans rfl, (blk_cell BK160.out 2).trans rfl⟩ (fun hHeld => ?_)
   clear hK K
   refine norm_ (a' := ?_) ?_ ?_
   rotate_left
   ·
    show Act.put _ (some 27) _ = _
    simp only [Act.put, List.setIfInBounds_toArray, List.set_cons_zero, List.set_cons_succ, i64_w, i32_w]
    rfl
   refine two_ (i := 3) (j := 7) (Ni := some 29) (Nj := some 7) #[true, true, true, true, false, false, false, false, false, false] #[true, true, true, false, false, false, false, true, false, false] rfl rfl rfl rfl (two_of HT_.out (by kernel_rfl)) (by decide) (by decide) (fun K hK => ?_) (fun K hK => ?_)
   ·
    skip
    refine goes_ Try.func16 (by kernel_rfl) rfl #[.agg #[.int .i64 t163, .slice Ao187 t164.length co187], .agg #[.int .i64 a1_0, .int .i64 t156, .slice Ao174 t157.length co174]] (by rfl) rfl rfl (by (try simp only [List.map_toArray, List.map_cons, List.map_nil]); first | done | rfl | (simp only [List.length_drop, List.length_take]; rfl)) ?_
    with_reducible refine (delta_Apply.calls t163 _ _ t164 a1_0 t156 _ _ t157 t167 t168 t171 _ ?side1 ?side2 ?side3 ?side4 A29.out).mono ?_
    (case side1 => repeat (first | exact (Kd.R_reads' HO166.out).2.2 | (with_reducible refine Kd.C_alloc ?_ _) | (with_reducible refine Kd.C_drewN ?_ _) | (with_reducible refine Kd.C_drew ?_)))
    (case side2 => exact (Kd.R_reads' HO166.out).2.1)
    (case side3 => repeat (first | exact (Kd.R_reads' HO159.out).2.2 | (with_reducible refine Kd.C_alloc ?_ _) | (with_reducible refine Kd.C_drewN ?_ _) | (with_reducible refine Kd.C_drew ?_)))
    (case side4 => exact (Kd.R_reads' HO159.out).2.1)
    rintro e w188 ⟨v169, rfl, ho0, hb⟩
    refine ⟨_, rfl, ?_⟩
    have n0_ := Aside0.mk (Kd.R_elder' (by (with_reducible repeat (first | apply Kd.R_alloc | apply Kd.R_drewN | apply Kd.R_drew)); exact HO159.out) (Kd.R_base ho0) hb)
    have n1_ := Aside0.mk (Kd.R_elder' (by (with_reducible repeat (first | apply Kd.R_alloc | apply Kd.R_drewN | apply Kd.R_drew)); exact HO166.out) (Kd.R_base ho0) hb)
    have n2_ := Aside0.mk (Kd.R_lower (Kd.R_new' (Kd.R_new' ho0 (Kd.R_lt (by (with_reducible repeat (first | apply Kd.R_alloc | apply Kd.R_drewN | apply Kd.R_drew)); exact HO159.out))) (Kd.R_lt (by (with_reducible repeat (first | apply Kd.R_alloc | apply Kd.R_drewN | apply Kd.R_drew)); exact HO166.out))) (below_size (by repeat (first | (with_reducible first | exact HB.out | apply below_alloc | apply pw_below_drewN | apply below_drew1 | refine below_set ?_ GE153.out | refine below_set ?_ GE154.out | refine below_set ?_ GE160.out) | exact HB.out))))
    have n3_ := Aside0.mk (blk_below (g := gb153) (o := .cells #[.int .i64 a0_0, .slice A0_1 l0_1.length c0_1] 24 (0, 0)) (by (with_reducible repeat (first | refine blk_drewN ?_ _ | refine blk_drew ?_ | refine blk_alloc ?_ _)); exact BK153.out) hb)
    have n4_ := Aside0.mk (blk_below (g := gb154) (o := .cells #[.int .i64 a1_0, .int .i64 a1_1, .slice A1_2 l1_2.length c1_2] 27 (0, 0)) (by (with_reducible repeat (first | refine blk_drewN ?_ _ | refine blk_drew ?_ | refine blk_alloc ?_ _)); exact BK154.out) hb)
    have n5_ := Aside0.mk (blk_below (g := gb160) (o := .cells #[.int .i64 a1_0, .int .i64 t156, .slice Ao174 t157.length co174] 27 (0, 0)) (by (with_reducible repeat (first | refine blk_drewN ?_ _ | refine blk_drew ?_ | refine blk_alloc ?_ _)); exact BK160.out) hb)
    have n6_ := Aside0.mk (below_step (by repeat (first | (with_reducible first | exact HB.out | apply below_alloc | apply pw_below_drewN | apply below_drew1 | refine below_set ?_ GE153.out | refine below_set ?_ GE154.out | refine below_set ?_ GE160.out) | exact HB.out)) hb)
    clear HO159
    clear HO166
    clear BK153
    clear BK154
    clear BK160
    clear HB
    have HO159 := n0_
    have HO166 := n1_
    have HO170 := n2_
    have BK153 := n3_
    have BK154 := n4_
    have BK160 := n5_
    have HB := n6_
    clear n0_ n1_ n2_ n3_ n4_ n5_ n6_
    (try clear hb)
    (try clear hb2)
    (try clear hk)
    (try clear hi)
    (try clear ho0)
    refine hK.out _ _ ⟨(blk_cell BK153.out 0).trans rfl, (blk_cell BK153.out 1).trans rfl, (blk_cell BK160.out 0).trans rfl, (blk_cell BK160.out 1).trans rfl, (blk_cell BK160.out 2).trans rfl⟩ (fun hHeld => ?_)
    clear hK K
    refine norm_ (a' := ?_) ?_ ?_
    rotate_left
    ·
     show Act.put _ (some 29) _ = _
     simp only [Act.put, List.setIfInBounds_toArray, List.set_cons_zero, List.set_cons_succ, i64_w, i32_w]
     rfl
    refine pure_ (i := 4) (N := some 25) (v := ?_) (a' := ?_) #[true, true, true, true, true, false, false, false, false, false] rfl rfl (any_of HT_.out (by kernel_rfl)) (fun _ _ _ h => h) (Or.inl ⟨by rfl, ?_⟩) ?_ ?_
    rotate_left
    ·
     intro w'
     go_simp
     with_reducible rfl
    rotate_left
    ·
     simp only [Act.put, List.setIfInBounds_toArray, List.set_cons_zero, List.set_cons_succ, i64_w, i32_w]
     rfl
    refine pure_ (i := 5) (N := some 30) (v := ?_) (a' := ?_) #[true, true, true, true, true, true, false, false, false, false] rfl rfl (any_of HT_.out (by kernel_rfl)) (fun _ _ _ h => h) (Or.inl ⟨by rfl, ?_⟩) ?_ ?_
    rotate_left
    ·
     intro w'
     go_simp
     with_reducible rfl
    rotate_left
    ·
     simp only [Act.put, List.setIfInBounds_toArray, List.set_cons_zero, List.set_cons_succ, i64_w, i32_w]
     rfl
    refine pure_ (i := 6) (N := some 31) (v := ?_) (a' := ?_) #[true, true, true, true, true, true, true, false, false, false] rfl rfl (any_of HT_.out (by kernel_rfl)) (fun _ _ _ h => h) (Or.inl ⟨by rfl, ?_⟩) ?_ ?_
    rotate_left
    ·
     intro w'
     go_simp
     with_reducible rfl
    rotate_left
    ·
     simp only [Act.put, List.setIfInBounds_toArray, List.set_cons_zero, List.set_cons_succ, i64_w, i32_w]
     rfl
    refine one_ (i := 7) (N := some 7) #[true, true, true, true, true, true, true, true, false, false] rfl rfl (one_of HT_.out (by kernel_rfl)) (by decide) (fun K hK => ?_)
    refine box_step ?hg (N := 7) ?hd (cs := #[.int .i64 0, .slice none 0 0]) (t := 24) ?hr ?_; (case hd => rfl); (case hg => rfl); (case hr => first | (go_simp; done) | (go_simp; rfl))
    intro gb172 hg w189 hbox hb
    have n0_ := Aside0.mk (Kd.R_below (by (with_reducible repeat (first | apply Kd.R_alloc | apply Kd.R_drewN | apply Kd.R_drew)); exact HO159.out) hb)
    have n1_ := Aside0.mk (Kd.R_below (by (with_reducible repeat (first | apply Kd.R_alloc | apply Kd.R_drewN | apply Kd.R_drew)); exact HO166.out) hb)
    have n2_ := Aside0.mk (Kd.R_below (by (with_reducible repeat (first | apply Kd.R_alloc | apply Kd.R_drewN | apply Kd.R_drew)); exact HO170.out) hb)
    have n3_ := Aside0.mk (blk_below (g := gb153) (o := .cells #[.int .i64 a0_0, .slice A0_1 l0_1.length c0_1] 24 (0, 0)) (by (with_reducible repeat (first | refine blk_drewN ?_ _ | refine blk_drew ?_ | refine blk_alloc ?_ _)); exact BK153.out) hb)
    have n4_ := Aside0.mk (blk_below (g := gb154) (o := .cells #[.int .i64 a1_0, .int .i64 a1_1, .slice A1_2 l1_2.length c1_2] 27 (0, 0)) (by (with_reducible repeat (first | refine blk_drewN ?_ _ | refine blk_drew ?_ | refine blk_alloc ?_ _)); exact BK154.out) hb)
    have n5_ := Aside0.mk (blk_below (g := gb160) (o := .cells #[.int .i64 a1_0, .int .i64 t156, .slice Ao174 t157.length co174] 27 (0, 0)) (by (with_reducible repeat (first | refine blk_drewN ?_ _ | refine blk_drew ?_ | refine blk_alloc ?_ _)); exact BK160.out) hb)
    have n6_ := Aside0.mk (below_step (by repeat (first | (with_reducible first | exact HB.out | apply below_alloc | apply pw_below_drewN | apply below_drew1 | refine below_set ?_ GE153.out | refine below_set ?_ GE154.out | refine below_set ?_ GE160.out) | exact HB.out)) hb)
    have n7_ := Aside0.mk (hbox)
    have n8_ := Aside0.mk ((by rw [hg]; exact (below_size (by repeat (first | (with_reducible first | exact HB.out | apply below_alloc | apply pw_below_drewN | apply below_drew1 | refine below_set ?_ GE153.out | refine below_set ?_ GE154.out | refine below_set ?_ GE160.out) | exact HB.out))) : w.heap.size ≤ gb172))
    have n9_ := Aside0.mk ((by rw [hg]; exact (below_size (by repeat (first | (with_reducible first | exact HB.out | apply below_alloc | apply pw_below_drewN | apply below_drew1 | refine below_set ?_ GE153.out | refine below_set ?_ GE154.out | refine below_set ?_ GE160.out) | exact HB.out))) : w.heap.size ≤ gb172))
    have n10_ := Aside0.mk ((by rw [hg]; exact Nat.ne_of_lt (blk_lt (g := gb153) (o := .cells #[.int .i64 a0_0, .slice A0_1 l0_1.length c0_1] 24 (0, 0)) (by (with_reducible repeat (first | refine blk_drewN ?_ _ | refine blk_drew ?_ | refine blk_alloc ?_ _)); exact BK153.out)) : gb153 ≠ gb172))
    have n11_ := Aside0.mk ((by rw [hg]; exact Nat.ne_of_gt (blk_lt (g := gb153) (o := .cells #[.int .i64 a0_0, .slice A0_1 l0_1.length c0_1] 24 (0, 0)) (by (with_reducible repeat (first | refine blk_drewN ?_ _ | refine blk_drew ?_ | refine blk_alloc ?_ _)); exact BK153.out)) : gb172 ≠ gb153))
    have n12_ := Aside0.mk ((by rw [hg]; exact Nat.ne_of_lt (blk_lt (g := gb154) (o := .cells #[.int .i64 a1_0, .int .i64 a1_1, .slice A1_2 l1_2.length c1_2] 27 (0, 0)) (by (with_reducible repeat (first | refine blk_drewN ?_ _ | refine blk_drew ?_ | refine blk_alloc ?_ _)); exact BK154.out)) : gb154 ≠ gb172))
    have n13_ := Aside0.mk ((by rw [hg]; exact Nat.ne_of_gt (blk_lt (g := gb154) (o := .cells #[.int .i64 a1_0, .int .i64 a1_1, .slice A1_2 l1_2.length c1_2] 27 (0, 0)) (by (with_reducible repeat (first | refine blk_drewN ?_ _ | refine blk_drew ?_ | refine blk_alloc ?_ _)); exact BK154.out)) : gb172 ≠ gb154))
    have n14_ := Aside0.mk ((by rw [hg]; exact Nat.ne_of_lt (blk_lt (g := gb160) (o := .cells #[.int .i64 a1_0, .int .i64 t156, .slice Ao174 t157.length co174] 27 (0, 0)) (by (with_reducible repeat (first | refine blk_drewN ?_ _ | refine blk_drew ?_ | refine blk_alloc ?_ _)); exact BK160.out)) : gb160 ≠ gb172))
    have n15_ := Aside0.mk ((by rw [hg]; exact Nat.ne_of_gt (blk_lt (g := gb160) (o := .cells #[.int .i64 a1_0, .int .i64 t156, .slice Ao174 t157.length co174] 27 (0, 0)) (by (with_reducible repeat (first | refine blk_drewN ?_ _ | refine blk_drew ?_ | refine blk_alloc ?_ _)); exact BK160.out)) : gb172 ≠ gb160))
    clear HO159
    clear HO166
    clear HO170
    clear BK153
    clear BK154
    clear BK160
    clear HB
    have HO159 := n0_
    have HO166 := n1_
    have HO170 := n2_
    have BK153 := n3_
    have BK154 := n4_
    have BK160 := n5_
    have HB := n6_
    have BK172 := n7_
    have GW172 := n8_
    have GE172 := n9_
    have NB153_172 := n10_
    have NB172_153 := n11_
    have NB154_172 := n12_
    have NB172_154 := n13_
    have NB160_172 := n14_
    have NB172_160 := n15_
    clear n0_ n1_ n2_ n3_ n4_ n5_ n6_ n7_ n8_ n9_ n10_ n11_ n12_ n13_ n14_ n15_
    clear hb hbox hg
    refine hK.out _ _ ⟨(blk_cell BK153.out 0).trans rfl, (blk_cell BK153.out 1).trans rfl, (blk_cell BK160.out 0).trans rfl, (blk_cell BK160.out 1).trans rfl, (blk_cell BK160.out 2).trans rfl⟩ (fun hHeld => ?_)
    clear hK K
    refine norm_ (a' := ?_) ?_ ?_
    rotate_left
    ·
     show Act.put _ (some 7) _ = _
     simp only [Act.put, List.setIfInBounds_toArray, List.set_cons_zero, List.set_cons_succ, i64_w, i32_w]
     rfl
    exact norm_ (by simp only [putAll, Act.put, List.setIfInBounds_toArray, List.set_cons_zero, List.set_cons_succ]) (hCont (.slice Ao187 t164.length co187, v169, gb172) _ ⟨hHeld, (by (with_reducible repeat (first | apply Kd.R_alloc | apply Kd.R_drewN | apply Kd.R_drew)); exact Kd.R_mono HO159.out (fun _ hk => ⟨hk.1.2, hk.2⟩)), (by (with_reducible repeat (first | apply Kd.R_alloc | apply Kd.R_drewN | apply Kd.R_drew)); exact Kd.R_mono HO166.out (fun _ hk => ⟨hk.1.2, hk.2⟩)), (by (with_reducible repeat (first | apply Kd.R_alloc | apply Kd.R_drewN | apply Kd.R_drew)); exact Kd.R_mono HO170.out (fun _ hk => ⟨hk.1.2, hk.2⟩)), (by (with_reducible repeat (first | refine blk_drewN ?_ _ | refine blk_drew ?_ | refine blk_alloc ?_ _)); exact BK153.out), (by (with_reducible repeat (first | refine blk_drewN ?_ _ | refine blk_drew ?_ | refine blk_alloc ?_ _)); exact BK154.out), (by (with_reducible repeat (first | refine blk_drewN ?_ _ | refine blk_drew ?_ | refine blk_alloc ?_ _)); exact BK160.out), (by (with_reducible repeat (first | refine blk_drewN ?_ _ | refine blk_drew ?_ | refine blk_alloc ?_ _)); exact BK172.out), GW172.out, GE172.out, NB153_172.out, NB172_153.out, NB154_172.out, NB172_154.out, NB160_172.out, NB172_160.out, (by repeat (first | (with_reducible first | exact HB.out | apply below_alloc | apply pw_below_drewN | apply below_drew1 | refine below_set ?_ GE153.out | refine below_set ?_ GE154.out | refine below_set ?_ GE160.out | refine below_set ?_ GE172.out) | exact HB.out))⟩)
   ·
    skip
    refine box_step ?hg (N := 7) ?hd (cs := #[.int .i64 0, .slice none 0 0]) (t := 24) ?hr ?_; (case hd => rfl); (case hg => rfl); (case hr => first | (go_simp; done) | (go_simp; rfl))
    intro gb172 hg w187 hbox hb
    have n0_ := Aside0.mk (Kd.R_below (by (with_reducible repeat (first | apply Kd.R_alloc | apply Kd.R_drewN | apply Kd.R_drew)); exact HO159.out) hb)
    have n1_ := Aside0.mk (Kd.R_below (by (with_reducible repeat (first | apply Kd.R_alloc | apply Kd.R_drewN | apply Kd.R_drew)); exact HO166.out) hb)
    have n2_ := Aside0.mk (blk_below (g := gb153) (o := .cells #[.int .i64 a0_0, .slice A0_1 l0_1.length c0_1] 24 (0, 0)) (by (with_reducible repeat (first | refine blk_drewN ?_ _ | refine blk_drew ?_ | refine blk_alloc ?_ _)); exact BK153.out) hb)
    have n3_ := Aside0.mk (blk_below (g := gb154) (o := .cells #[.int .i64 a1_0, .int .i64 a1_1, .slice A1_2 l1_2.length c1_2] 27 (0, 0)) (by (with_reducible repeat (first | refine blk_drewN ?_ _ | refine blk_drew ?_ | refine blk_alloc ?_ _)); exact BK154.out) hb)
    have n4_ := Aside0.mk (blk_below (g := gb160) (o := .cells #[.int .i64 a1_0, .int .i64 t156, .slice Ao174 t157.length co174] 27 (0, 0)) (by (with_reducible repeat (first | refine blk_drewN ?_ _ | refine blk_drew ?_ | refine blk_alloc ?_ _)); exact BK160.out) hb)
    have n5_ := Aside0.mk (below_step (by repeat (first | (with_reducible first | exact HB.out | apply below_alloc | apply pw_below_drewN | apply below_drew1 | refine below_set ?_ GE153.out | refine below_set ?_ GE154.out | refine below_set ?_ GE160.out) | exact HB.out)) hb)
    have n6_ := Aside0.mk (hbox)
    have n7_ := Aside0.mk ((by rw [hg]; exact (below_size (by repeat (first | (with_reducible first | exact HB.out | apply below_alloc | apply pw_below_drewN | apply below_drew1 | refine below_set ?_ GE153.out | refine below_set ?_ GE154.out | refine below_set ?_ GE160.out) | exact HB.out))) : w.heap.size ≤ gb172))
    have n8_ := Aside0.mk ((by rw [hg]; exact (below_size (by repeat (first | (with_reducible first | exact HB.out | apply below_alloc | apply pw_below_drewN | apply below_drew1 | refine below_set ?_ GE153.out | refine below_set ?_ GE154.out | refine below_set ?_ GE160.out) | exact HB.out))) : w.heap.size ≤ gb172))
    have n9_ := Aside0.mk ((by rw [hg]; exact Nat.ne_of_lt (blk_lt (g := gb153) (o := .cells #[.int .i64 a0_0, .slice A0_1 l0_1.length c0_1] 24 (0, 0)) (by (with_reducible repeat (first | refine blk_drewN ?_ _ | refine blk_drew ?_ | refine blk_alloc ?_ _)); exact BK153.out)) : gb153 ≠ gb172))
    have n10_ := Aside0.mk ((by rw [hg]; exact Nat.ne_of_gt (blk_lt (g := gb153) (o := .cells #[.int .i64 a0_0, .slice A0_1 l0_1.length c0_1] 24 (0, 0)) (by (with_reducible repeat (first | refine blk_drewN ?_ _ | refine blk_drew ?_ | refine blk_alloc ?_ _)); exact BK153.out)) : gb172 ≠ gb153))
    have n11_ := Aside0.mk ((by rw [hg]; exact Nat.ne_of_lt (blk_lt (g := gb154) (o := .cells #[.int .i64 a1_0, .int .i64 a1_1, .slice A1_2 l1_2.length c1_2] 27 (0, 0)) (by (with_reducible repeat (first | refine blk_drewN ?_ _ | refine blk_drew ?_ | refine blk_alloc ?_ _)); exact BK154.out)) : gb154 ≠ gb172))
    have n12_ := Aside0.mk ((by rw [hg]; exact Nat.ne_of_gt (blk_lt (g := gb154) (o := .cells #[.int .i64 a1_0, .int .i64 a1_1, .slice A1_2 l1_2.length c1_2] 27 (0, 0)) (by (with_reducible repeat (first | refine blk_drewN ?_ _ | refine blk_drew ?_ | refine blk_alloc ?_ _)); exact BK154.out)) : gb172 ≠ gb154))
    have n13_ := Aside0.mk ((by rw [hg]; exact Nat.ne_of_lt (blk_lt (g := gb160) (o := .cells #[.int .i64 a1_0, .int .i64 t156, .slice Ao174 t157.length co174] 27 (0, 0)) (by (with_reducible repeat (first | refine blk_drewN ?_ _ | refine blk_drew ?_ | refine blk_alloc ?_ _)); exact BK160.out)) : gb160 ≠ gb172))
    have n14_ := Aside0.mk ((by rw [hg]; exact Nat.ne_of_gt (blk_lt (g := gb160) (o := .cells #[.int .i64 a1_0, .int .i64 t156, .slice Ao174 t157.length co174] 27 (0, 0)) (by (with_reducible repeat (first | refine blk_drewN ?_ _ | refine blk_drew ?_ | refine blk_alloc ?_ _)); exact BK160.out)) : gb172 ≠ gb160))
    clear HO159
    clear HO166
    clear BK153
    clear BK154
    clear BK160
    clear HB
    have HO159 := n0_
    have HO166 := n1_
    have BK153 := n2_
    have BK154 := n3_
    have BK160 := n4_
    have HB := n5_
    have BK172 := n6_
    have GW172 := n7_
    have GE172 := n8_
    have NB153_172 := n9_
    have NB172_153 := n10_
    have NB154_172 := n11_
    have NB172_154 := n12_
    have NB160_172 := n13_
    have NB172_160 := n14_
    clear n0_ n1_ n2_ n3_ n4_ n5_ n6_ n7_ n8_ n9_ n10_ n11_ n12_ n13_ n14_
    clear hb hbox hg
    obtain ⟨Ao188, co188, eo188⟩ := Kd.R_slice HO166.out
    (first | subst eo188 | (injection eo188 with f1_ f2_ f3_; have f4_ := f1_.symm; have f5_ := f3_.symm; clear f1_ f2_ f3_; subst f4_; subst f5_))
    refine hK.out _ _ ⟨(blk_cell BK153.out 0).trans rfl, (blk_cell BK153.out 1).trans rfl, (blk_cell BK160.out 0).trans rfl, (blk_cell BK160.out 1).trans rfl, (blk_cell BK160.out 2).trans rfl⟩ (fun hHeld => ?_)
    clear hK K
    refine norm_ (a' := ?_) ?_ ?_
    rotate_left
    ·
     show Act.put _ (some 7) _ = _
     simp only [Act.put, List.setIfInBounds_toArray, List.set_cons_zero, List.set_cons_succ, i64_w, i32_w]
     rfl
    refine one_ (i := 3) (N := some 29) #[true, true, true, true, false, false, false, true, false, false] rfl rfl (one_of HT_.out (by kernel_rfl)) (by decide) (fun K hK => ?_)
    refine goes_ Try.func16 (by kernel_rfl) rfl #[.agg #[.int .i64 t163, .slice Ao188 t164.length co188], .agg #[.int .i64 a1_0, .int .i64 t156, .slice Ao174 t157.length co174]] (by rfl) rfl rfl (by (try simp only [List.map_toArray, List.map_cons, List.map_nil]); first | done | rfl | (simp only [List.length_drop, List.length_take]; rfl)) ?_
    with_reducible refine (delta_Apply.calls t163 _ _ t164 a1_0 t156 _ _ t157 t167 t168 t171 _ ?side1 ?side2 ?side3 ?side4 A29.out).mono ?_
    (case side1 => repeat (first | exact (Kd.R_reads' HO166.out).2.2 | (with_reducible refine Kd.C_alloc ?_ _) | (with_reducible refine Kd.C_drewN ?_ _) | (with_reducible refine Kd.C_drew ?_)))
    (case side2 => exact (Kd.R_reads' HO166.out).2.1)
    (case side3 => repeat (first | exact (Kd.R_reads' HO159.out).2.2 | (with_reducible refine Kd.C_alloc ?_ _) | (with_reducible refine Kd.C_drewN ?_ _) | (with_reducible refine Kd.C_drew ?_)))
    (case side4 => exact (Kd.R_reads' HO159.out).2.1)
    rintro e w189 ⟨v169, rfl, ho0, hb⟩
    refine ⟨_, rfl, ?_⟩
    have n0_ := Aside0.mk (Kd.R_elder' (by (with_reducible repeat (first | apply Kd.R_alloc | apply Kd.R_drewN | apply Kd.R_drew)); exact HO159.out) (Kd.R_base ho0) hb)
    have n1_ := Aside0.mk (Kd.R_elder' (by (with_reducible repeat (first | apply Kd.R_alloc | apply Kd.R_drewN | apply Kd.R_drew)); exact HO166.out) (Kd.R_base ho0) hb)
    have n2_ := Aside0.mk (Kd.R_lower (Kd.R_new' (Kd.R_new' ho0 (Kd.R_lt (by (with_reducible repeat (first | apply Kd.R_alloc | apply Kd.R_drewN | apply Kd.R_drew)); exact HO159.out))) (Kd.R_lt (by (with_reducible repeat (first | apply Kd.R_alloc | apply Kd.R_drewN | apply Kd.R_drew)); exact HO166.out))) (below_size (by repeat (first | (with_reducible first | exact HB.out | apply below_alloc | apply pw_below_drewN | apply below_drew1 | refine below_set ?_ GE153.out | refine below_set ?_ GE154.out | refine below_set ?_ GE160.out | refine below_set ?_ GE172.out) | exact HB.out))))
    have n3_ := Aside0.mk (blk_below (g := gb153) (o := .cells #[.int .i64 a0_0, .slice A0_1 l0_1.length c0_1] 24 (0, 0)) (by (with_reducible repeat (first | refine blk_drewN ?_ _ | refine blk_drew ?_ | refine blk_alloc ?_ _)); exact BK153.out) hb)
    have n4_ := Aside0.mk (blk_below (g := gb154) (o := .cells #[.int .i64 a1_0, .int .i64 a1_1, .slice A1_2 l1_2.length c1_2] 27 (0, 0)) (by (with_reducible repeat (first | refine blk_drewN ?_ _ | refine blk_drew ?_ | refine blk_alloc ?_ _)); exact BK154.out) hb)
    have n5_ := Aside0.mk (blk_below (g := gb160) (o := .cells #[.int .i64 a1_0, .int .i64 t156, .slice Ao174 t157.length co174] 27 (0, 0)) (by (with_reducible repeat (first | refine blk_drewN ?_ _ | refine blk_drew ?_ | refine blk_alloc ?_ _)); exact BK160.out) hb)
    have n6_ := Aside0.mk (blk_below (g := gb172) (o := .cells #[.int .i64 0, .slice none 0 0] 24 (0, 0)) (by (with_reducible repeat (first | refine blk_drewN ?_ _ | refine blk_drew ?_ | refine blk_alloc ?_ _)); exact BK172.out) hb)
    have n7_ := Aside0.mk (below_step (by repeat (first | (with_reducible first | exact HB.out | apply below_alloc | apply pw_below_drewN | apply below_drew1 | refine below_set ?_ GE153.out | refine below_set ?_ GE154.out | refine below_set ?_ GE160.out | refine below_set ?_ GE172.out) | exact HB.out)) hb)
    clear HO159
    clear HO166
    clear BK153
    clear BK154
    clear BK160
    clear BK172
    clear HB
    have HO159 := n0_
    have HO166 := n1_
    have HO170 := n2_
    have BK153 := n3_
    have BK154 := n4_
    have BK160 := n5_
    have BK172 := n6_
    have HB := n7_
    clear n0_ n1_ n2_ n3_ n4_ n5_ n6_ n7_
    (try clear hb)
    (try clear hb2)
    (try clear hk)
    (try clear hi)
    (try clear ho0)
    refine hK.out _ _ ⟨(blk_cell BK153.out 0).trans rfl, (blk_cell BK153.out 1).trans rfl, (blk_cell BK160.out 0).trans rfl, (blk_cell BK160.out 1).trans rfl, (blk_cell BK160.out 2).trans rfl⟩ (fun hHeld => ?_)
    clear hK K
    refine norm_ (a' := ?_) ?_ ?_
    rotate_left
    ·
     show Act.put _ (some 29) _ = _
     simp only [Act.put, List.setIfInBounds_toArray, List.set_cons_zero, List.set_cons_succ, i64_w, i32_w]
     rfl
    refine pure_ (i := 4) (N := some 25) (v := ?_) (a' := ?_) #[true, true, true, true, true, false, false, true, false, false] rfl rfl (any_of HT_.out (by kernel_rfl)) (fun _ _ _ h => h) (Or.inl ⟨by rfl, ?_⟩) ?_ ?_
    rotate_left
    ·
     intro w'
     go_simp
     with_reducible rfl
    rotate_left
    ·
     simp only [Act.put, List.setIfInBounds_toArray, List.set_cons_zero, List.set_cons_succ, i64_w, i32_w]
     rfl
    refine pure_ (i := 5) (N := some 30) (v := ?_) (a' := ?_) #[true, true, true, true, true, true, false, true, false, false] rfl rfl (any_of HT_.out (by kernel_rfl)) (fun _ _ _ h => h) (Or.inl ⟨by rfl, ?_⟩) ?_ ?_
    rotate_left
    ·
     intro w'
     go_simp
     with_reducible rfl
    rotate_left
    ·
     simp only [Act.put, List.setIfInBounds_toArray, List.set_cons_zero, List.set_cons_succ, i64_w, i32_w]
     rfl
    refine pure_ (i := 6) (N := some 31) (v := ?_) (a' := ?_) #[true, true, true, true, true, true, true, true, false, false] rfl rfl (any_of HT_.out (by kernel_rfl)) (fun _ _ _ h => h) (Or.inl ⟨by rfl, ?_⟩) ?_ ?_
    rotate_left
    ·
     intro w'
     go_simp
     with_reducible rfl
    rotate_left
    ·
     simp only [Act.put, List.setIfInBounds_toArray, List.set_cons_zero, List.set_cons_succ, i64_w, i32_w]
     rfl
    exact norm_ (by simp only [putAll, Act.put, List.setIfInBounds_toArray, List.set_cons_zero, List.set_cons_succ]) (hCont (.slice Ao188 t164.length co188, v169, gb172) _ ⟨hHeld, (by (with_reducible repeat (first | apply Kd.R_alloc | apply Kd.R_drewN | apply Kd.R_drew)); exact Kd.R_mono HO159.out (fun _ hk => ⟨hk.1.2, hk.2⟩)), (by (with_reducible repeat (first | apply Kd.R_alloc | apply Kd.R_drewN | apply Kd.R_drew)); exact Kd.R_mono HO166.out (fun _ hk => ⟨hk.1.2, hk.2⟩)), (by (with_reducible repeat (first | apply Kd.R_alloc | apply Kd.R_drewN | apply Kd.R_drew)); exact Kd.R_mono HO170.out (fun _ hk => ⟨hk.1.2, hk.2⟩)), (by (with_reducible repeat (first | refine blk_drewN ?_ _ | refine blk_drew ?_ | refine blk_alloc ?_ _)); exact BK153.out), (by (with_reducible repeat (first | refine blk_drewN ?_ _ | refine blk_drew ?_ | refine blk_alloc ?_ _)); exact BK154.out), (by (with_reducible repeat (first | refine blk_drewN ?_ _ | refine blk_drew ?_ | refine blk_alloc ?_ _)); exact BK160.out), (by (with_reducible repeat (first | refine blk_drewN ?_ _ | refine blk_drew ?_ | refine blk_alloc ?_ _)); exact BK172.out), GW172.out, GE172.out, NB153_172.out, NB172_153.out, NB154_172.out, NB172_154.out, NB160_172.out, NB172_160.out, (by repeat (first | (with_reducible first | exact HB.out | apply below_alloc | apply pw_below_drewN | apply below_drew1 | refine below_set ?_ GE153.out | refine below_set ?_ GE154.out | refine below_set ?_ GE160.out | refine below_set ?_ GE172.out) | exact HB.out))⟩)
  ·
   skip
   refine box_step ?hg (N := 7) ?hd (cs := #[.int .i64 0, .slice none 0 0]) (t := 24) ?hr ?_; (case hd => rfl); (case hg => rfl); (case hr => first | (go_simp; done) | (go_simp; rfl))
   intro gb172 hg w186 hbox hb
   have n0_ := Aside0.mk (Kd.R_below (by (with_reducible repeat (first | apply Kd.R_alloc | apply Kd.R_drewN | apply Kd.R_drew)); exact HO159.out) hb)
   have n1_ := Aside0.mk (blk_below (g := gb153) (o := .cells #[.int .i64 a0_0, .slice A0_1 l0_1.length c0_1] 24 (0, 0)) (by (with_reducible repeat (first | refine blk_drewN ?_ _ | refine blk_drew ?_ | refine blk_alloc ?_ _)); exact BK153.out) hb)
   have n2_ := Aside0.mk (blk_below (g := gb154) (o := .cells #[.int .i64 a1_0, .int .i64 a1_1, .slice A1_2 l1_2.length c1_2] 27 (0, 0)) (by (with_reducible repeat (first | refine blk_drewN ?_ _ | refine blk_drew ?_ | refine blk_alloc ?_ _)); exact BK154.out) hb)
   have n3_ := Aside0.mk (blk_below (g := gb160) (o := .cells #[.int .i64 a1_0, .int .i64 t156, .slice Ao174 t157.length co174] 27 (0, 0)) (by (with_reducible repeat (first | refine blk_drewN ?_ _ | refine blk_drew ?_ | refine blk_alloc ?_ _)); exact BK160.out) hb)
   have n4_ := Aside0.mk (below_step (by repeat (first | (with_reducible first | exact HB.out | apply below_alloc | apply pw_below_drewN | apply below_drew1 | refine below_set ?_ GE153.out | refine below_set ?_ GE154.out | refine below_set ?_ GE160.out) | exact HB.out)) hb)
   have n5_ := Aside0.mk (hbox)
   have n6_ := Aside0.mk ((by rw [hg]; exact (below_size (by repeat (first | (with_reducible first | exact HB.out | apply below_alloc | apply pw_below_drewN | apply below_drew1 | refine below_set ?_ GE153.out | refine below_set ?_ GE154.out | refine below_set ?_ GE160.out) | exact HB.out))) : w.heap.size ≤ gb172))
   have n7_ := Aside0.mk ((by rw [hg]; exact (below_size (by repeat (first | (with_reducible first | exact HB.out | apply below_alloc | apply pw_below_drewN | apply below_drew1 | refine below_set ?_ GE153.out | refine below_set ?_ GE154.out | refine below_set ?_ GE160.out) | exact HB.out))) : w.heap.size ≤ gb172))
   have n8_ := Aside0.mk ((by rw [hg]; exact Nat.ne_of_lt (blk_lt (g := gb153) (o := .cells #[.int .i64 a0_0, .slice A0_1 l0_1.length c0_1] 24 (0, 0)) (by (with_reducible repeat (first | refine blk_drewN ?_ _ | refine blk_drew ?_ | refine blk_alloc ?_ _)); exact BK153.out)) : gb153 ≠ gb172))
   have n9_ := Aside0.mk ((by rw [hg]; exact Nat.ne_of_gt (blk_lt (g := gb153) (o := .cells #[.int .i64 a0_0, .slice A0_1 l0_1.length c0_1] 24 (0, 0)) (by (with_reducible repeat (first | refine blk_drewN ?_ _ | refine blk_drew ?_ | refine blk_alloc ?_ _)); exact BK153.out)) : gb172 ≠ gb153))
   have n10_ := Aside0.mk ((by rw [hg]; exact Nat.ne_of_lt (blk_lt (g := gb154) (o := .cells #[.int .i64 a1_0, .int .i64 a1_1, .slice A1_2 l1_2.length c1_2] 27 (0, 0)) (by (with_reducible repeat (first | refine blk_drewN ?_ _ | refine blk_drew ?_ | refine blk_alloc ?_ _)); exact BK154.out)) : gb154 ≠ gb172))
   have n11_ := Aside0.mk ((by rw [hg]; exact Nat.ne_of_gt (blk_lt (g := gb154) (o := .cells #[.int .i64 a1_0, .int .i64 a1_1, .slice A1_2 l1_2.length c1_2] 27 (0, 0)) (by (with_reducible repeat (first | refine blk_drewN ?_ _ | refine blk_drew ?_ | refine blk_alloc ?_ _)); exact BK154.out)) : gb172 ≠ gb154))
   have n12_ := Aside0.mk ((by rw [hg]; exact Nat.ne_of_lt (blk_lt (g := gb160) (o := .cells #[.int .i64 a1_0, .int .i64 t156, .slice Ao174 t157.length co174] 27 (0, 0)) (by (with_reducible repeat (first | refine blk_drewN ?_ _ | refine blk_drew ?_ | refine blk_alloc ?_ _)); exact BK160.out)) : gb160 ≠ gb172))
   have n13_ := Aside0.mk ((by rw [hg]; exact Nat.ne_of_gt (blk_lt (g := gb160) (o := .cells #[.int .i64 a1_0, .int .i64 t156, .slice Ao174 t157.length co174] 27 (0, 0)) (by (with_reducible repeat (first | refine blk_drewN ?_ _ | refine blk_drew ?_ | refine blk_alloc ?_ _)); exact BK160.out)) : gb172 ≠ gb160))
   clear HO159
   clear BK153
   clear BK154
   clear BK160
   clear HB
   have HO159 := n0_
   have BK153 := n1_
   have BK154 := n2_
   have BK160 := n3_
   have HB := n4_
   have BK172 := n5_
   have GW172 := n6_
   have GE172 := n7_
   have NB153_172 := n8_
   have NB172_153 := n9_
   have NB154_172 := n10_
   have NB172_154 := n11_
   have NB160_172 := n12_
   have NB172_160 := n13_
   clear n0_ n1_ n2_ n3_ n4_ n5_ n6_ n7_ n8_ n9_ n10_ n11_ n12_ n13_
   clear hb hbox hg
   refine hK.out _ _ ⟨(blk_cell BK153.out 0).trans rfl, (blk_cell BK153.out 1).trans rfl, (blk_cell BK160.out 0).trans rfl, (blk_cell BK160.out 1).trans rfl, (blk_cell BK160.out 2).trans rfl⟩ (fun hHeld => ?_)
   clear hK K
   refine norm_ (a' := ?_) ?_ ?_
   rotate_left
   ·
    show Act.put _ (some 7) _ = _
    simp only [Act.put, List.setIfInBounds_toArray, List.set_cons_zero, List.set_cons_succ, i64_w, i32_w]
    rfl
   refine one_ (i := 1) (N := some 27) #[true, true, true, false, false, false, false, true, false, false] rfl rfl (one_of HT_.out (by kernel_rfl)) (by decide) (fun K hK => ?_)
   refine goes_ Try.func10 (by kernel_rfl) rfl #[.agg #[.int .i64 a0_0, .slice A0_1 l0_1.length c0_1]] (by rfl) rfl rfl (by (try simp only [List.map_toArray, List.map_cons, List.map_nil]); first | done | rfl | (simp only [List.length_drop, List.length_take]; rfl)) ?_
   with_reducible refine (cofferref15_Copy.calls a0_0 _ _ l0_1 t163 t164 _ ?side1 ?side2 A28.out).mono ?_
   (case side1 => repeat (first | exact (Kd.C_below HR0_1.out HB.out) | (with_reducible refine Kd.C_alloc ?_ _) | (with_reducible refine Kd.C_drewN ?_ _) | (with_reducible refine Kd.C_drew ?_)))
   (case side2 => exact HC0_1.out)
   rintro e w187 ⟨v165, rfl, ho0, hb⟩
   refine ⟨_, rfl, ?_⟩
   have n0_ := Aside0.mk (Kd.R_elder' (by (with_reducible repeat (first | apply Kd.R_alloc | apply Kd.R_drewN | apply Kd.R_drew)); exact HO159.out) (Kd.R_base ho0) hb)
   have n1_ := Aside0.mk (Kd.R_lower (Kd.R_new' ho0 (Kd.R_lt (by (with_reducible repeat (first | apply Kd.R_alloc | apply Kd.R_drewN | apply Kd.R_drew)); exact HO159.out))) (below_size (by repeat (first | (with_reducible first | exact HB.out | apply below_alloc | apply pw_below_drewN | apply below_drew1 | refine below_set ?_ GE153.out | refine below_set ?_ GE154.out | refine below_set ?_ GE160.out | refine below_set ?_ GE172.out) | exact HB.out))))
   have n2_ := Aside0.mk (blk_below (g := gb153) (o := .cells #[.int .i64 a0_0, .slice A0_1 l0_1.length c0_1] 24 (0, 0)) (by (with_reducible repeat (first | refine blk_drewN ?_ _ | refine blk_drew ?_ | refine blk_alloc ?_ _)); exact BK153.out) hb)
   have n3_ := Aside0.mk (blk_below (g := gb154) (o := .cells #[.int .i64 a1_0, .int .i64 a1_1, .slice A1_2 l1_2.length c1_2] 27 (0, 0)) (by (with_reducible repeat (first | refine blk_drewN ?_ _ | refine blk_drew ?_ | refine blk_alloc ?_ _)); exact BK154.out) hb)
   have n4_ := Aside0.mk (blk_below (g := gb160) (o := .cells #[.int .i64 a1_0, .int .i64 t156, .slice Ao174 t157.length co174] 27 (0, 0)) (by (with_reducible repeat (first | refine blk_drewN ?_ _ | refine blk_drew ?_ | refine blk_alloc ?_ _)); exact BK160.out) hb)
   have n5_ := Aside0.mk (blk_below (g := gb172) (o := .cells #[.int .i64 0, .slice none 0 0] 24 (0, 0)) (by (with_reducible repeat (first | refine blk_drewN ?_ _ | refine blk_drew ?_ | refine blk_alloc ?_ _)); exact BK172.out) hb)
   have n6_ := Aside0.mk (below_step (by repeat (first | (with_reducible first | exact HB.out | apply below_alloc | apply pw_below_drewN | apply below_drew1 | refine below_set ?_ GE153.out | refine below_set ?_ GE154.out | refine below_set ?_ GE160.out | refine below_set ?_ GE172.out) | exact HB.out)) hb)
   clear HO159
   clear BK153
   clear BK154
   clear BK160
   clear BK172
   clear HB
   have HO159 := n0_
   have HO166 := n1_
   have BK153 := n2_
   have BK154 := n3_
   have BK160 := n4_
   have BK172 := n5_
   have HB := n6_
   clear n0_ n1_ n2_ n3_ n4_ n5_ n6_
   (try clear hb)
   (try clear hb2)
   (try clear hk)
   (try clear hi)
   (try clear ho0)
   obtain ⟨Ao188, co188, eo188⟩ := Kd.R_slice HO166.out
   (first | subst eo188 | (injection eo188 with f1_ f2_ f3_; have f4_ := f1_.symm; have f5_ := f3_.symm; clear f1_ f2_ f3_; subst f4_; subst f5_))
   refine hK.out _ _ ⟨(blk_cell BK153.out 0).trans rfl, (blk_cell BK153.out 1).trans rfl, (blk_cell BK160.out 0).trans rfl, (blk_cell BK160.out 1).trans rfl, (blk_cell BK160.out 2).trans rfl⟩ (fun hHeld => ?_)
   clear hK K
   refine norm_ (a' := ?_) ?_ ?_
   rotate_left
   ·
    show Act.put _ (some 27) _ = _
    simp only [Act.put, List.setIfInBounds_toArray, List.set_cons_zero, List.set_cons_succ, i64_w, i32_w]
    rfl
   refine one_ (i := 3) (N := some 29) #[true, true, true, true, false, false, false, true, false, false] rfl rfl (one_of HT_.out (by kernel_rfl)) (by decide) (fun K hK => ?_)
   refine goes_ Try.func16 (by kernel_rfl) rfl #[.agg #[.int .i64 t163, .slice Ao188 t164.length co188], .agg #[.int .i64 a1_0, .int .i64 t156, .slice Ao174 t157.length co174]] (by rfl) rfl rfl (by (try simp only [List.map_toArray, List.map_cons, List.map_nil]); first | done | rfl | (simp only [List.length_drop, List.length_take]; rfl)) ?_
   with_reducible refine (delta_Apply.calls t163 _ _ t164 a1_0 t156 _ _ t157 t167 t168 t171 _ ?side1 ?side2 ?side3 ?side4 A29.out).mono ?_
   (case side1 => repeat (first | exact (Kd.R_reads' HO166.out).2.2 | (with_reducible refine Kd.C_alloc ?_ _) | (with_reducible refine Kd.C_drewN ?_ _) | (with_reducible refine Kd.C_drew ?_)))
   (case side2 => exact (Kd.R_reads' HO166.out).2.1)
   (case side3 => repeat (first | exact (Kd.R_reads' HO159.out).2.2 | (with_reducible refine Kd.C_alloc ?_ _) | (with_reducible refine Kd.C_drewN ?_ _) | (with_reducible refine Kd.C_drew ?_)))
   (case side4 => exact (Kd.R_reads' HO159.out).2.1)
   rintro e w189 ⟨v169, rfl, ho0, hb⟩
   refine ⟨_, rfl, ?_⟩
   have n0_ := Aside0.mk (Kd.R_elder' (by (with_reducible repeat (first | apply Kd.R_alloc | apply Kd.R_drewN | apply Kd.R_drew)); exact HO159.out) (Kd.R_base ho0) hb)
   have n1_ := Aside0.mk (Kd.R_elder' (by (with_reducible repeat (first | apply Kd.R_alloc | apply Kd.R_drewN | apply Kd.R_drew)); exact HO166.out) (Kd.R_base ho0) hb)
   have n2_ := Aside0.mk (Kd.R_lower (Kd.R_new' (Kd.R_new' ho0 (Kd.R_lt (by (with_reducible repeat (first | apply Kd.R_alloc | apply Kd.R_drewN | apply Kd.R_drew)); exact HO159.out))) (Kd.R_lt (by (with_reducible repeat (first | apply Kd.R_alloc | apply Kd.R_drewN | apply Kd.R_drew)); exact HO166.out))) (below_size (by repeat (first | (with_reducible first | exact HB.out | apply below_alloc | apply pw_below_drewN | apply below_drew1 | refine below_set ?_ GE153.out | refine below_set ?_ GE154.out | refine below_set ?_ GE160.out | refine below_set ?_ GE172.out) | exact HB.out))))
   have n3_ := Aside0.mk (blk_below (g := gb153) (o := .cells #[.int .i64 a0_0, .slice A0_1 l0_1.length c0_1] 24 (0, 0)) (by (with_reducible repeat (first | refine blk_drewN ?_ _ | refine blk_drew ?_ | refine blk_alloc ?_ _)); exact BK153.out) hb)
   have n4_ := Aside0.mk (blk_below (g := gb154) (o := .cells #[.int .i64 a1_0, .int .i64 a1_1, .slice A1_2 l1_2.length c1_2] 27 (0, 0)) (by (with_reducible repeat (first | refine blk_drewN ?_ _ | refine blk_drew ?_ | refine blk_alloc ?_ _)); exact BK154.out) hb)
   have n5_ := Aside0.mk (blk_below (g := gb160) (o := .cells #[.int .i64 a1_0, .int .i64 t156, .slice Ao174 t157.length co174] 27 (0, 0)) (by (with_reducible repeat (first | refine blk_drewN ?_ _ | refine blk_drew ?_ | refine blk_alloc ?_ _)); exact BK160.out) hb)
   have n6_ := Aside0.mk (blk_below (g := gb172) (o := .cells #[.int .i64 0, .slice none 0 0] 24 (0, 0)) (by (with_reducible repeat (first | refine blk_drewN ?_ _ | refine blk_drew ?_ | refine blk_alloc ?_ _)); exact BK172.out) hb)
   have n7_ := Aside0.mk (below_step (by repeat (first | (with_reducible first | exact HB.out | apply below_alloc | apply pw_below_drewN | apply below_drew1 | refine below_set ?_ GE153.out | refine below_set ?_ GE154.out | refine below_set ?_ GE160.out | refine below_set ?_ GE172.out) | exact HB.out)) hb)
   clear HO159
   clear HO166
   clear BK153
   clear BK154
   clear BK160
   clear BK172
   clear HB
   have HO159 := n0_
   have HO166 := n1_
   have HO170 := n2_
   have BK153 := n3_
   have BK154 := n4_
   have BK160 := n5_
   have BK172 := n6_
   have HB := n7_
   clear n0_ n1_ n2_ n3_ n4_ n5_ n6_ n7_
   (try clear hb)
   (try clear hb2)
   (try clear hk)
   (try clear hi)
   (try clear ho0)
   refine hK.out _ _ ⟨(blk_cell BK153.out 0).trans rfl, (blk_cell BK153.out 1).trans rfl, (blk_cell BK160.out 0).trans rfl, (blk_cell BK160.out 1).trans rfl, (blk_cell BK160.out 2).trans rfl⟩ (fun hHeld => ?_)
   clear hK K
   refine norm_ (a' := ?_) ?_ ?_
   rotate_left
   ·
    show Act.put _ (some 29) _ = _
    simp only [Act.put, List.setIfInBounds_toArray, List.set_cons_zero, List.set_cons_succ, i64_w, i32_w]
    rfl
   refine pure_ (i := 4) (N := some 25) (v := ?_) (a' := ?_) #[true, true, true, true, true, false, false, true, false, false] rfl rfl (any_of HT_.out (by kernel_rfl)) (fun _ _ _ h => h) (Or.inl ⟨by rfl, ?_⟩) ?_ ?_
   rotate_left
   ·
    intro w'
    go_simp
    with_reducible rfl
   rotate_left
   ·
    simp only [Act.put, List.setIfInBounds_toArray, List.set_cons_zero, List.set_cons_succ, i64_w, i32_w]
    rfl
   refine pure_ (i := 5) (N := some 30) (v := ?_) (a' := ?_) #[true, true, true, true, true, true, false, true, false, false] rfl rfl (any_of HT_.out (by kernel_rfl)) (fun _ _ _ h => h) (Or.inl ⟨by rfl, ?_⟩) ?_ ?_
   rotate_left
   ·
    intro w'
    go_simp
    with_reducible rfl
   rotate_left
   ·
    simp only [Act.put, List.setIfInBounds_toArray, List.set_cons_zero, List.set_cons_succ, i64_w, i32_w]
    rfl
   refine pure_ (i := 6) (N := some 31) (v := ?_) (a' := ?_) #[true, true, true, true, true, true, true, true, false, false] rfl rfl (any_of HT_.out (by kernel_rfl)) (fun _ _ _ h => h) (Or.inl ⟨by rfl, ?_⟩) ?_ ?_
   rotate_left
   ·
    intro w'
    go_simp
    with_reducible rfl
   rotate_left
   ·
    simp only [Act.put, List.setIfInBounds_toArray, List.set_cons_zero, List.set_cons_succ, i64_w, i32_w]
    rfl
   exact norm_ (by simp only [putAll, Act.put, List.setIfInBounds_toArray, List.set_cons_zero, List.set_cons_succ]) (hCont (.slice Ao188 t164.length co188, v169, gb172) _ ⟨hHeld, (by (with_reducible repeat (first | apply Kd.R_alloc | apply Kd.R_drewN | apply Kd.R_drew)); exact Kd.R_mono HO159.out (fun _ hk => ⟨hk.1.2, hk.2⟩)), (by (with_reducible repeat (first | apply Kd.R_alloc | apply Kd.R_drewN | apply Kd.R_drew)); exact Kd.R_mono HO166.out (fun _ hk => ⟨hk.1.2, hk.2⟩)), (by (with_reducible repeat (first | apply Kd.R_alloc | apply Kd.R_drewN | apply Kd.R_drew)); exact Kd.R_mono HO170.out (fun _ hk => ⟨hk.1.2, hk.2⟩)), (by (with_reducible repeat (first | refine blk_drewN ?_ _ | refine blk_drew ?_ | refine blk_alloc ?_ _)); exact BK153.out), (by (with_reducible repeat (first | refine blk_drewN ?_ _ | refine blk_drew ?_ | refine blk_alloc ?_ _)); exact BK154.out), (by (with_reducible repeat (first | refine blk_drewN ?_ _ | refine blk_drew ?_ | refine blk_alloc ?_ _)); exact BK160.out), (by (with_reducible repeat (first | refine blk_drewN ?_ _ | refine blk_drew ?_ | refine blk_alloc ?_ _)); exact BK172.out), GW172.out, GE172.out, NB153_172.out, NB172_153.out, NB154_172.out, NB172_154.out, NB160_172.out, NB172_160.out, (by repeat (first | (with_reducible first | exact HB.out | apply below_alloc | apply pw_below_drewN | apply below_drew1 | refine below_set ?_ GE153.out | refine below_set ?_ GE154.out | refine below_set ?_ GE160.out | refine below_set ?_ GE172.out) | exact HB.out))⟩)
 rintro ⟨v165, v169, gb172⟩ w190 ⟨hS_, h0_, h1_, h2_, h3_, h4_, h5_, h6_, h7_, h8_, h9_, h10_, h11_, h12_, h13_, h14_, h15_⟩
 have n0_ : Aside0 (Kd.R k48 48 w190 w.heap.size (fun k_ => some k_ ≠ (v165 : Value).ownBlock ∧ some k_ ≠ (v169 : Value).ownBlock) (.slice Ao174 t157.length co174) t157) := ⟨h0_⟩
 have n1_ : Aside0 (Kd.R k48 48 w190 w.heap.size (fun k_ => some k_ ≠ (.slice Ao174 t157.length co174 : Value).ownBlock ∧ some k_ ≠ (v169 : Value).ownBlock) v165 t164) := ⟨h1_⟩
 have n2_ : Aside0 (Kd.R k48 48 w190 w.heap.size (fun k_ => some k_ ≠ (.slice Ao174 t157.length co174 : Value).ownBlock ∧ some k_ ≠ (v165 : Value).ownBlock) v169 t168) := ⟨h2_⟩
 have n3_ : Aside0 (w190.heap[gb153]? = some (.cells #[.int .i64 a0_0, .slice A0_1 l0_1.length c0_1] 24 (0, 0))) := ⟨h3_⟩
 have n4_ : Aside0 (w190.heap[gb154]? = some (.cells #[.int .i64 a1_0, .int .i64 a1_1, .slice A1_2 l1_2.length c1_2] 27 (0, 0))) := ⟨h4_⟩
 have n5_ : Aside0 (w190.heap[gb160]? = some (.cells #[.int .i64 a1_0, .int .i64 t156, .slice Ao174 t157.length co174] 27 (0, 0))) := ⟨h5_⟩
 have n6_ : Aside0 (w190.heap[gb172]? = some (.cells #[.int .i64 0, .slice none 0 0] 24 (0, 0))) := ⟨h6_⟩
 have n7_ : Aside0 (w.heap.size ≤ gb172) := ⟨h7_⟩
 have n8_ : Aside0 (w.heap.size ≤ gb172) := ⟨h8_⟩
 have n9_ : Aside0 (gb153 ≠ gb172) := ⟨h9_⟩
 have n10_ : Aside0 (gb172 ≠ gb153) := ⟨h10_⟩
 have n11_ : Aside0 (gb154 ≠ gb172) := ⟨h11_⟩
 have n12_ : Aside0 (gb172 ≠ gb154) := ⟨h12_⟩
 have n13_ : Aside0 (gb160 ≠ gb172) := ⟨h13_⟩
 have n14_ : Aside0 (gb172 ≠ gb160) := ⟨h14_⟩
 have n15_ : Aside0 (Below w.heap.size w w190) := ⟨h15_⟩
 clear HO159
 clear BK153
 clear BK154
 clear BK160
 clear HB
 clear h0_ h1_ h2_ h3_ h4_ h5_ h6_ h7_ h8_ h9_ h10_ h11_ h12_ h13_ h14_ h15_
 have HO159 := n0_
 have HO166 := n1_
 have HO170 := n2_
 have BK153 := n3_
 have BK154 := n4_
 have BK160 := n5_
 have BK172 := n6_
 have GW172 := n7_
 have GE172 := n8_
 have NB153_172 := n9_
 have NB172_153 := n10_
 have NB154_172 := n11_
 have NB172_154 := n12_
 have NB160_172 := n13_
 have NB172_160 := n14_
 have HB := n15_
 clear n0_ n1_ n2_ n3_ n4_ n5_ n6_ n7_ n8_ n9_ n10_ n11_ n12_ n13_ n14_ n15_
 have hHeld : w190.cell? ⟨gb153, 0, none⟩ = some (.int .i64 a0_0) ∧ w190.cell? ⟨gb153, 1, none⟩ = some (.slice A0_1 l0_1.length c0_1) ∧ w190.cell? ⟨gb160, 0, none⟩ = some (.int .i64 a1_0) ∧ w190.cell? ⟨gb160, 1, none⟩ = some (.int .i64 t156) ∧ w190.cell? ⟨gb160, 2, none⟩ = some (.slice Ao174 t157.length co174) := hS_
 obtain ⟨Ao192, co192, eo192⟩ := Kd.R_slice HO170.out
 (first | subst eo192 | (injection eo192 with f1_ f2_ f3_; have f4_ := f1_.symm; have f5_ := f3_.symm; clear f1_ f2_ f3_; subst f4_; subst f5_))
 refine norm_ (a' := ?_) ?_ ?_
 rotate_left
 ·
  simp only [putAll, Act.put, List.setIfInBounds_toArray, List.set_cons_zero, List.set_cons_succ]
  rfl
 refine one_ (i := 8) (N := none) #[true, true, true, true, true, true, true, true, true, false] rfl rfl (one_of HT_.out (by kernel_rfl)) (by decide) (fun K hK => ?_)
 have hs191 : w190.cell? ⟨gb172, 0, none⟩ = some (.int .i64 0) := (blk_cell BK172.out 0).trans rfl
 have hfs191 := blk_frozen BK172.out 0
 have hns191_0 := NB153_172.out
 have hns191_1 := NB154_172.out
 have hns191_2 := NB160_172.out
 have hms191_0 := NB172_153.out
 have hms191_1 := NB172_154.out
 have hms191_2 := NB172_160.out
 have hs193 : w190.cell? ⟨gb172, 1, none⟩ = some (.slice none 0 0) := (blk_cell BK172.out 1).trans rfl
 have hfs193 := blk_frozen BK172.out 1
 have hns193_0 := NB153_172.out
 have hns193_1 := NB154_172.out
 have hns193_2 := NB160_172.out
 have hms193_0 := NB172_153.out
 have hms193_1 := NB172_154.out
 have hms193_2 := NB172_160.out
 refine skip_ (w1 := ?_) (by rfl) rfl ?_ ?_
 rotate_left
 ·
  go_simp
  rfl
 refine hK.out _ _ ⟨((cell_far (p := ⟨gb172, _, none⟩) NB153_172.out _).trans (((cell_far (p := ⟨gb172, _, none⟩) NB153_172.out _).trans (hHeld.1)))), ((cell_far (p := ⟨gb172, _, none⟩) NB153_172.out _).trans (((cell_far (p := ⟨gb172, _, none⟩) NB153_172.out _).trans (hHeld.2.1)))), ((cell_far (p := ⟨gb172, _, none⟩) NB160_172.out _).trans (((cell_far (p := ⟨gb172, _, none⟩) NB160_172.out _).trans (hHeld.2.2.1)))), ((cell_far (p := ⟨gb172, _, none⟩) NB160_172.out _).trans (((cell_far (p := ⟨gb172, _, none⟩) NB160_172.out _).trans (hHeld.2.2.2.1)))), ((cell_far (p := ⟨gb172, _, none⟩) NB160_172.out _).trans (((cell_far (p := ⟨gb172, _, none⟩) NB160_172.out _).trans (hHeld.2.2.2.2))))⟩ (fun hHeld => ?_)
 clear hK K
 refine pure_ (i := 9) (N := some 8) (v := ?_) (a' := ?_) #[true, true, true, true, true, true, true, true, true, true] rfl rfl (any_of HT_.out (by kernel_rfl)) (fun _ _ _ h => h) (Or.inl ⟨by rfl, ?_⟩) ?_ ?_
 rotate_left
 ·
  intro w'
  go_simp
  with_reducible rfl
 rotate_left
 ·
  simp only [Act.put, List.setIfInBounds_toArray, List.set_cons_zero, List.set_cons_succ, i64_w, i32_w]
  rfl
 refine done_ (done_of HT_.out (by kernel_rfl)) ?_
 have hnb194 := NB153_172.out
 have hnc194 := NB172_153.out
 have hcz195_0 : w190.cell? ⟨gb153, 0, none⟩ = some (.int .i64 a0_0) := (blk_cell BK153.out 0).trans rfl
 have hcz195_1 : w190.cell? ⟨gb153, 1, none⟩ = some (.slice A0_1 l0_1.length c0_1) := (blk_cell BK153.out 1).trans rfl
 have hfz195_0 := blk_frozen BK153.out 0
 have hfz195_1 := blk_frozen BK153.out 1
 have hnb196 := NB154_172.out
 have hnc196 := NB172_154.out
 have hcz197_0 : w190.cell? ⟨gb154, 0, none⟩ = some (.int .i64 a1_0) := (blk_cell BK154.out 0).trans rfl
 have hcz197_1 : w190.cell? ⟨gb154, 1, none⟩ = some (.int .i64 a1_1) := (blk_cell BK154.out 1).trans rfl
 have hcz197_2 : w190.cell? ⟨gb154, 2, none⟩ = some (.slice A1_2 l1_2.length c1_2) := (blk_cell BK154.out 2).trans rfl
 have hfz197_0 := blk_frozen BK154.out 0
 have hfz197_1 := blk_frozen BK154.out 1
 have hfz197_2 := blk_frozen BK154.out 2
 try go_wp2_with (first | ((with_reducible refine gate_callee (f := 17) rfl ?_); refine goesL_ (some 35) rfl rfl Try.func17 (by kernel_rfl) rfl #[.agg #[.int .i64 a0_0, .slice A0_1 l0_1.length c0_1], .agg #[.int .i64 a1_0, .int .i64 a1_1, .slice A1_2 l1_2.length c1_2]] rfl (by (try simp only [List.map_toArray, List.map_cons, List.map_nil]); first | done | rfl | (simp only [List.length_drop, List.length_take]; rfl)) ?_; (with_reducible refine (cofferref19_Apply.calls k a0_0 _ _ l0_1 a1_0 a1_1 _ _ l1_2 t173 t174 t177 _ ?side1 ?side2 ?side3 ?side4 A30.out).mono ?_); (case side1 => exact Kd.C_below HR0_1.out (by repeat (first | (with_reducible first | exact HB.out | apply below_alloc | apply pw_below_drewN | apply below_drew1 | refine below_set ?_ GE153.out | refine below_set ?_ GE154.out | refine below_set ?_ GE160.out | refine below_set ?_ GE172.out) | exact HB.out))); (case side2 => exact HC0_1.out); (case side3 => exact Kd.C_below HR1_2.out (by repeat (first | (with_reducible first | exact HB.out | apply below_alloc | apply pw_below_drewN | apply below_drew1 | refine below_set ?_ GE153.out | refine below_set ?_ GE154.out | refine below_set ?_ GE160.out | refine below_set ?_ GE172.out) | exact HB.out))); (case side4 => exact HC1_2.out); rintro e w198 ⟨v175, rfl, ho0, hb⟩; refine ⟨_, rfl, ?_⟩; have n0_ := Aside0.mk (Kd.R_elder' (by (with_reducible repeat (first | apply Kd.R_alloc | apply Kd.R_drewN | apply Kd.R_drew)); exact (Kd.R_mono (Kd.R_far (p := ⟨gb172, 1, none⟩) (Kd.R_far (p := ⟨gb172, 0, none⟩) (Kd.R_types HO159.out BK172.out (by decide)) (fun _ hk => hk.2) (.int .i64 t167)) (fun _ hk => hk.2) (.slice Ao192 t168.length co192)) (fun _ h_ => h_.1))) (Kd.R_base ho0) hb); have n1_ := Aside0.mk (Kd.R_elder' (by (with_reducible repeat (first | apply Kd.R_alloc | apply Kd.R_drewN | apply Kd.R_drew)); exact (Kd.R_mono (Kd.R_far (p := ⟨gb172, 1, none⟩) (Kd.R_far (p := ⟨gb172, 0, none⟩) (Kd.R_types HO166.out BK172.out (by decide)) (fun _ hk => hk.2) (.int .i64 t167)) (fun _ hk => hk.2) (.slice Ao192 t168.length co192)) (fun _ h_ => h_.1))) (Kd.R_base ho0) hb); have n2_ := Aside0.mk (Kd.R_elder' (by (with_reducible repeat (first | apply Kd.R_alloc | apply Kd.R_drewN | apply Kd.R_drew)); exact (Kd.R_mono (Kd.R_far (p := ⟨gb172, 1, none⟩) (Kd.R_far (p := ⟨gb172, 0, none⟩) (Kd.R_types HO170.out BK172.out (by decide)) (fun _ hk => hk.2) (.int .i64 t167)) (fun _ hk => hk.2) (.slice Ao192 t168.length co192)) (fun _ h_ => h_.1))) (Kd.R_base ho0) hb); have n3_ := Aside0.mk (Kd.R_lower (Kd.R_new' (Kd.R_new' (Kd.R_new' ho0 (Kd.R_lt (by (with_reducible repeat (first | apply Kd.R_alloc | apply Kd.R_drewN | apply Kd.R_drew)); exact (Kd.R_mono (Kd.R_far (p := ⟨gb172, 1, none⟩) (Kd.R_far (p := ⟨gb172, 0, none⟩) (Kd.R_types HO159.out BK172.out (by decide)) (fun _ hk => hk.2) (.int .i64 t167)) (fun _ hk => hk.2) (.slice Ao192 t168.length co192)) (fun _ h_ => h_.1))))) (Kd.R_lt (by (with_reducible repeat (first | apply Kd.R_alloc | apply Kd.R_drewN | apply Kd.R_drew)); exact (Kd.R_mono (Kd.R_far (p := ⟨gb172, 1, none⟩) (Kd.R_far (p := ⟨gb172, 0, none⟩) (Kd.R_types HO166.out BK172.out (by decide)) (fun _ hk => hk.2) (.int .i64 t167)) (fun _ hk => hk.2) (.slice Ao192 t168.length co192)) (fun _ h_ => h_.1))))) (Kd.R_lt (by (with_reducible repeat (first | apply Kd.R_alloc | apply Kd.R_drewN | apply Kd.R_drew)); exact (Kd.R_mono (Kd.R_far (p := ⟨gb172, 1, none⟩) (Kd.R_far (p := ⟨gb172, 0, none⟩) (Kd.R_types HO170.out BK172.out (by decide)) (fun _ hk => hk.2) (.int .i64 t167)) (fun _ hk => hk.2) (.slice Ao192 t168.length co192)) (fun _ h_ => h_.1))))) (below_size (by repeat (first | (with_reducible first | exact HB.out | apply below_alloc | apply pw_below_drewN | apply below_drew1 | refine below_set ?_ GE153.out | refine below_set ?_ GE154.out | refine below_set ?_ GE160.out | refine below_set ?_ GE172.out) | exact HB.out)))); have n4_ := Aside0.mk (blk_below (g := gb153) (o := .cells #[.int .i64 a0_0, .slice A0_1 l0_1.length c0_1] 24 (0, 0)) (by (with_reducible repeat (first | refine blk_drewN ?_ _ | refine blk_drew ?_ | refine blk_alloc ?_ _)); refine blk_far ?_ NB153_172.out _; (with_reducible repeat (first | refine blk_drewN ?_ _ | refine blk_drew ?_ | refine blk_alloc ?_ _)); refine blk_far ?_ NB153_172.out _; (with_reducible repeat (first | refine blk_drewN ?_ _ | refine blk_drew ?_ | refine blk_alloc ?_ _)); exact BK153.out) hb); have n5_ := Aside0.mk (blk_below (g := gb154) (o := .cells #[.int .i64 a1_0, .int .i64 a1_1, .slice A1_2 l1_2.length c1_2] 27 (0, 0)) (by (with_reducible repeat (first | refine blk_drewN ?_ _ | refine blk_drew ?_ | refine blk_alloc ?_ _)); refine blk_far ?_ NB154_172.out _; (with_reducible repeat (first | refine blk_drewN ?_ _ | refine blk_drew ?_ | refine blk_alloc ?_ _)); refine blk_far ?_ NB154_172.out _; (with_reducible repeat (first | refine blk_drewN ?_ _ | refine blk_drew ?_ | refine blk_alloc ?_ _)); exact BK154.out) hb); have n6_ := Aside0.mk (blk_below (g := gb160) (o := .cells #[.int .i64 a1_0, .int .i64 t156, .slice Ao174 t157.length co174] 27 (0, 0)) (by (with_reducible repeat (first | refine blk_drewN ?_ _ | refine blk_drew ?_ | refine blk_alloc ?_ _)); refine blk_far ?_ NB160_172.out _; (with_reducible repeat (first | refine blk_drewN ?_ _ | refine blk_drew ?_ | refine blk_alloc ?_ _)); refine blk_far ?_ NB160_172.out _; (with_reducible repeat (first | refine blk_drewN ?_ _ | refine blk_drew ?_ | refine blk_alloc ?_ _)); exact BK160.out) hb); have n7_ := Aside0.mk (blk_below (g := gb172) (o := .cells #[.int .i64 t167, .slice Ao192 t168.length co192] 24 (0, 0)) (by (with_reducible repeat (first | refine blk_drewN ?_ _ | refine blk_drew ?_ | refine blk_alloc ?_ _)); refine blk_put (cs := #[.int .i64 t167, .slice none 0 0]) ?_ 1 _ rfl; (with_reducible repeat (first | refine blk_drewN ?_ _ | refine blk_drew ?_ | refine blk_alloc ?_ _)); refine blk_put (cs := #[.int .i64 0, .slice none 0 0]) ?_ 0 _ rfl; (with_reducible repeat (first | refine blk_drewN ?_ _ | refine blk_drew ?_ | refine blk_alloc ?_ _)); exact BK172.out) hb); have n8_ := Aside0.mk (below_step (by repeat (first | (with_reducible first | exact HB.out | apply below_alloc | apply pw_below_drewN | apply below_drew1 | refine below_set ?_ GE153.out | refine below_set ?_ GE154.out | refine below_set ?_ GE160.out | refine below_set ?_ GE172.out) | exact HB.out)) hb); clear HO159; clear HO166; clear HO170; clear BK153; clear BK154; clear BK160; clear BK172; clear HB; have HO159 := n0_; have HO166 := n1_; have HO170 := n2_; have HO176 := n3_; have BK153 := n4_; have BK154 := n5_; have BK160 := n6_; have BK172 := n7_; have HB := n8_; clear n0_ n1_ n2_ n3_ n4_ n5_ n6_ n7_ n8_; (try clear hb); (try clear hb2); (try clear hk); (try clear hi); (try clear ho0)) | ((with_reducible refine gate_dst (N := 9) rfl ?_); refine box_event ?hg (N := 9) ?hd (cs := #[.int .i64 0, .slice none 0 0]) (t := 24) ?hr ?_; (case hd => rfl); (case hg => rfl); (case hr => first | (go_simp; done) | (go_simp; rfl)); intro gb178 hg w199 hbox hb; have n0_ := Aside0.mk (Kd.R_below (by (with_reducible repeat (first | apply Kd.R_alloc | apply Kd.R_drewN | apply Kd.R_drew)); exact HO159.out) hb); have n1_ := Aside0.mk (Kd.R_below (by (with_reducible repeat (first | apply Kd.R_alloc | apply Kd.R_drewN | apply Kd.R_drew)); exact HO166.out) hb); have n2_ := Aside0.mk (Kd.R_below (by (with_reducible repeat (first | apply Kd.R_alloc | apply Kd.R_drewN | apply Kd.R_drew)); exact HO170.out) hb); have n3_ := Aside0.mk (Kd.R_below (by (with_reducible repeat (first | apply Kd.R_alloc | apply Kd.R_drewN | apply Kd.R_drew)); exact HO176.out) hb); have n4_ := Aside0.mk (blk_below (g := gb153) (o := .cells #[.int .i64 a0_0, .slice A0_1 l0_1.length c0_1] 24 (0, 0)) (by (with_reducible repeat (first | refine blk_drewN ?_ _ | refine blk_drew ?_ | refine blk_alloc ?_ _)); exact BK153.out) hb); have n5_ := Aside0.mk (blk_below (g := gb154) (o := .cells #[.int .i64 a1_0, .int .i64 a1_1, .slice A1_2 l1_2.length c1_2] 27 (0, 0)) (by (with_reducible repeat (first | refine blk_drewN ?_ _ | refine blk_drew ?_ | refine blk_alloc ?_ _)); exact BK154.out) hb); have n6_ := Aside0.mk (blk_below (g := gb160) (o := .cells #[.int .i64 a1_0, .int .i64 t156, .slice Ao174 t157.length co174] 27 (0, 0)) (by (with_reducible repeat (first | refine blk_drewN ?_ _ | refine blk_drew ?_ | refine blk_alloc ?_ _)); exact BK160.out) hb); have n7_ := Aside0.mk (blk_below (g := gb172) (o := .cells #[.int .i64 t167, .slice Ao192 t168.length co192] 24 (0, 0)) (by (with_reducible repeat (first | refine blk_drewN ?_ _ | refine blk_drew ?_ | refine blk_alloc ?_ _)); exact BK172.out) hb); have n8_ := Aside0.mk (below_step (by repeat (first | (with_reducible first | exact HB.out | apply below_alloc | apply pw_below_drewN | apply below_drew1 | refine below_set ?_ GE153.out | refine below_set ?_ GE154.out | refine below_set ?_ GE160.out | refine below_set ?_ GE172.out) | exact HB.out)) hb); have n9_ := Aside0.mk (hbox); have n10_ := Aside0.mk ((by rw [hg]; exact (below_size (by repeat (first | (with_reducible first | exact HB.out | apply below_alloc | apply pw_below_drewN | apply below_drew1 | refine below_set ?_ GE153.out | refine below_set ?_ GE154.out | refine below_set ?_ GE160.out | refine below_set ?_ GE172.out) | exact HB.out))) : w.heap.size ≤ gb178)); have n11_ := Aside0.mk ((by rw [hg]; exact (below_size (by repeat (first | (with_reducible first | exact HB.out | apply below_alloc | apply pw_below_drewN | apply below_drew1 | refine below_set ?_ GE153.out | refine below_set ?_ GE154.out | refine below_set ?_ GE160.out | refine below_set ?_ GE172.out) | exact HB.out))) : w.heap.size ≤ gb178)); have n12_ := Aside0.mk ((by rw [hg]; exact Nat.ne_of_lt (blk_lt (g := gb153) (o := .cells #[.int .i64 a0_0, .slice A0_1 l0_1.length c0_1] 24 (0, 0)) (by (with_reducible repeat (first | refine blk_drewN ?_ _ | refine blk_drew ?_ | refine blk_alloc ?_ _)); exact BK153.out)) : gb153 ≠ gb178)); have n13_ := Aside0.mk ((by rw [hg]; exact Nat.ne_of_gt (blk_lt (g := gb153) (o := .cells #[.int .i64 a0_0, .slice A0_1 l0_1.length c0_1] 24 (0, 0)) (by (with_reducible repeat (first | refine blk_drewN ?_ _ | refine blk_drew ?_ | refine blk_alloc ?_ _)); exact BK153.out)) : gb178 ≠ gb153)); have n14_ := Aside0.mk ((by rw [hg]; exact Nat.ne_of_lt (blk_lt (g := gb154) (o := .cells #[.int .i64 a1_0, .int .i64 a1_1, .slice A1_2 l1_2.length c1_2] 27 (0, 0)) (by (with_reducible repeat (first | refine blk_drewN ?_ _ | refine blk_drew ?_ | refine blk_alloc ?_ _)); exact BK154.out)) : gb154 ≠ gb178)); have n15_ := Aside0.mk ((by rw [hg]; exact Nat.ne_of_gt (blk_lt (g := gb154) (o := .cells #[.int .i64 a1_0, .int .i64 a1_1, .slice A1_2 l1_2.length c1_2] 27 (0, 0)) (by (with_reducible repeat (first | refine blk_drewN ?_ _ | refine blk_drew ?_ | refine blk_alloc ?_ _)); exact BK154.out)) : gb178 ≠ gb154)); have n16_ := Aside0.mk ((by rw [hg]; exact Nat.ne_of_lt (blk_lt (g := gb160) (o := .cells #[.int .i64 a1_0, .int .i64 t156, .slice Ao174 t157.length co174] 27 (0, 0)) (by (with_reducible repeat (first | refine blk_drewN ?_ _ | refine blk_drew ?_ | refine blk_alloc ?_ _)); exact BK160.out)) : gb160 ≠ gb178)); have n17_ := Aside0.mk ((by rw [hg]; exact Nat.ne_of_gt (blk_lt (g := gb160) (o := .cells #[.int .i64 a1_0, .int .i64 t156, .slice Ao174 t157.length co174] 27 (0, 0)) (by (with_reducible repeat (first | refine blk_drewN ?_ _ | refine blk_drew ?_ | refine blk_alloc ?_ _)); exact BK160.out)) : gb178 ≠ gb160)); have n18_ := Aside0.mk ((by rw [hg]; exact Nat.ne_of_lt (blk_lt (g := gb172) (o := .cells #[.int .i64 t167, .slice Ao192 t168.length co192] 24 (0, 0)) (by (with_reducible repeat (first | refine blk_drewN ?_ _ | refine blk_drew ?_ | refine blk_alloc ?_ _)); exact BK172.out)) : gb172 ≠ gb178)); have n19_ := Aside0.mk ((by rw [hg]; exact Nat.ne_of_gt (blk_lt (g := gb172) (o := .cells #[.int .i64 t167, .slice Ao192 t168.length co192] 24 (0, 0)) (by (with_reducible repeat (first | refine blk_drewN ?_ _ | refine blk_drew ?_ | refine blk_alloc ?_ _)); exact BK172.out)) : gb178 ≠ gb172)); clear HO159; clear HO166; clear HO170; clear HO176; clear BK153; clear BK154; clear BK160; clear BK172; clear HB; have HO159 := n0_; have HO166 := n1_; have HO170 := n2_; have HO176 := n3_; have BK153 := n4_; have BK154 := n5_; have BK160 := n6_; have BK172 := n7_; have HB := n8_; have BK178 := n9_; have GW178 := n10_; have GE178 := n11_; have NB153_178 := n12_; have NB178_153 := n13_; have NB154_178 := n14_; have NB178_154 := n15_; have NB160_178 := n16_; have NB178_160 := n17_; have NB172_178 := n18_; have NB178_172 := n19_; clear n0_ n1_ n2_ n3_ n4_ n5_ n6_ n7_ n8_ n9_ n10_ n11_ n12_ n13_ n14_ n15_ n16_ n17_ n18_ n19_; clear hb hbox hg; have hnb200 := NB178_153.out; have hnc200 := NB153_178.out; have hnb201 := NB178_154.out; have hnc201 := NB154_178.out; have hnb202 := NB178_160.out; have hnc202 := NB160_178.out; have hnb203 := NB178_172.out; have hnc203 := NB172_178.out; have hcz204_0 : w199.cell? ⟨gb178, 0, none⟩ = some (.int .i64 0) := (blk_cell BK178.out 0).trans rfl; have hcz204_1 : w199.cell? ⟨gb178, 1, none⟩ = some (.slice none 0 0) := (blk_cell BK178.out 1).trans rfl; have hfz204_0 := blk_frozen BK178.out 0; have hfz204_1 := blk_frozen BK178.out 1; obtain ⟨Ao205, co205, eo205⟩ := Kd.R_slice HO176.out; subst eo205))
 go_ret
 exact ⟨by first | rfl | (simp [errW_none, errW_some] <;> rfl) | (simp [*, errW_none, errW_some] <;> rfl), by repeat (first | (with_reducible first | exact HB.out | apply below_alloc | apply pw_below_drewN | apply below_drew1 | refine below_set ?_ GE153.out | refine below_set ?_ GE154.out | refine below_set ?_ GE160.out | refine below_set ?_ GE172.out | refine below_set ?_ GE178.out) | exact HB.out)⟩
end Go.Proofs.Ytbhdehkdnenigaa.PD4

namespace Go.Proofs.Ytbhdehkdnenigaa.PD4
open PDeltaLaid Go.RowKit Go.Proofs.YtbhdehkdnenigaaW.PrintWords Go.Proofs.YtbhdehkdnenigaaW.PrintLast Go.Proofs.YtbhdehkdnenigaaW.PrintMore
attribute [local go_sem] max2_int min2_int max_two min_two max_three min_three max_four min_four   -- for this text's walks alone
set_option linter.unusedVariables false
set_option linter.unusedSimpArgs false

set_option maxHeartbeats 8000000 in
set_option maxRecDepth 100000 in
theorem cofferlaw19_DeltaApplies.calls (k : Nat) (a0_0 : Int) (A0_1 : Option Addr) (c0_1 : Nat) (l0_1 : List (S48)) (a1_0 : Int) (a1_1 : Int) (A1_2 : Option Addr) (c1_2 : Nat) (l1_2 : List (S48)) (r : Bool) (w : World) (hr0_1 : Kd.C k48 w A0_1 l0_1.length l0_1) (hc0_1 : l0_1.length ≤ c0_1) (hr1_2 : Kd.C k48 w A1_2 l1_2.length l1_2) (hc1_2 : l1_2.length ≤ c1_2) (h : cofferlaw19_DeltaApplies.f k a0_0 l0_1 a1_0 a1_1 l1_2 = some r) (ht : r = true) :
  Calls Try.prog 4 #[.agg #[.int .i64 a0_0, .slice A0_1 l0_1.length c0_1], .agg #[.int .i64 a1_0, .int .i64 a1_1, .slice A1_2 l1_2.length c1_2]] w fun e w' => e = .returned (.bool r) ∧ Below w.heap.size w w' := by
 have hu24 := Try.underlying24
 have hu27 := Try.underlying27
 have HR0_1 := Aside0.mk hr0_1
 have HC0_1 := Aside0.mk hc0_1
 clear hr0_1 hc0_1
 have HR1_2 := Aside0.mk hr1_2
 have HC1_2 := Aside0.mk hc1_2
 clear hr1_2 hc1_2
 have HB := Aside0.mk (Below.refl w.heap.size w)
 have H : ((cofferlaw19_first.f).bind fun t155 => (if t155 = true then ((cofferref15_Copy.f a1_1 l1_2).bind fun bt156 => ((cofferref19_Right.f a1_0 a1_1 l1_2).bind fun t161 => ((delta_Right.f a1_0 bt156.1 bt156.2).bind fun t162 => (if (t162 != t161) = true then (some false) else ((cofferref15_Copy.f a0_0 l0_1).bind fun bt163 => ((delta_Apply.f bt163.1 bt163.2 a1_0 bt156.1 bt156.2).bind fun bt167 => ((cofferref19_Apply.f k a0_0 l0_1 a1_0 a1_1 l1_2).bind fun bt173 => (if t161 = true then ((cofferref15_Right.f a0_0 l0_1).bind fun t179 => (if t179 = true then (if bt167.2.2 = bt173.2.2 then ((cofferref15_Same.f bt167.1 bt167.2.1 bt173.1 bt173.2.1).bind fun t180 => (some t180)) else (some false)) else (some true))) else (some true))))))))) else (some false))) = some r := h
 clear h
 replace H := Option.bind_eq_some_iff.mp H
 obtain ⟨t155, A30, H⟩ := H
 replace H : (if t155 = true then ((cofferref15_Copy.f a1_1 l1_2).bind fun bt156 => ((cofferref19_Right.f a1_0 a1_1 l1_2).bind fun t161 => ((delta_Right.f a1_0 bt156.1 bt156.2).bind fun t162 => (if (t162 != t161) = true then (some false) else ((cofferref15_Copy.f a0_0 l0_1).bind fun bt163 => ((delta_Apply.f bt163.1 bt163.2 a1_0 bt156.1 bt156.2).bind fun bt167 => ((cofferref19_Apply.f k a0_0 l0_1 a1_0 a1_1 l1_2).bind fun bt173 => (if t161 = true then ((cofferref15_Right.f a0_0 l0_1).bind fun t179 => (if t179 = true then (if bt167.2.2 = bt173.2.2 then ((cofferref15_Same.f bt167.1 bt167.2.1 bt173.1 bt173.2.1).bind fun t180 => (some t180)) else (some false)) else (some true))) else (some true))))))))) else (some false)) = some r := H
 have A3 := Aside0.mk A30
 clear A30
 by_cases c4 : t155 = true
 ·
  subst c4
  have H1 : ((cofferref15_Copy.f a1_1 l1_2).bind fun bt156 => ((cofferref19_Right.f a1_0 a1_1 l1_2).bind fun t161 => ((delta_Right.f a1_0 bt156.1 bt156.2).bind fun t162 => (if (t162 != t161) = true then (some false) else ((cofferref15_Copy.f a0_0 l0_1).bind fun bt163 => ((delta_Apply.f bt163.1 bt163.2 a1_0 bt156.1 bt156.2).bind fun bt167 => ((cofferref19_Apply.f k a0_0 l0_1 a1_0 a1_1 l1_2).bind fun bt173 => (if t161 = true then ((cofferref15_Right.f a0_0 l0_1).bind fun t179 => (if t179 = true then (if bt167.2.2 = bt173.2.2 then ((cofferref15_Same.f bt167.1 bt167.2.1 bt173.1 bt173.2.1).bind fun t180 => (some t180)) else (some false)) else (some true))) else (some true))))))))) = some r := by rw [if_pos rfl] at H; exact H
  clear H
  have H := H1
  clear H1
  replace H := Option.bind_eq_some_iff.mp H
  obtain ⟨⟨t156, t157⟩, A50, H⟩ := H
  replace H : ((cofferref19_Right.f a1_0 a1_1 l1_2).bind fun t161 => ((delta_Right.f a1_0 t156 t157).bind fun t162 => (if (t162 != t161) = true then (some false) else ((cofferref15_Copy.f a0_0 l0_1).bind fun bt163 => ((delta_Apply.f bt163.1 bt163.2 a1_0 t156 t157).bind fun bt167 => ((cofferref19_Apply.f k a0_0 l0_1 a1_0 a1_1 l1_2).bind fun bt173 => (if t161 = true then ((cofferref15_Right.f a0_0 l0_1).bind fun t179 => (if t179 = true then (if bt167.2.2 = bt173.2.2 then ((cofferref15_Same.f bt167.1 bt167.2.1 bt173.1 bt173.2.1).bind fun t180 => (some t180)) else (some false)) else (some true))) else (some true)))))))) = some r := H
  have A5 := Aside0.mk A50
  clear A50
  replace H := Option.bind_eq_some_iff.mp H
  obtain ⟨t161, A60, H⟩ := H
  replace H : ((delta_Right.f a1_0 t156 t157).bind fun t162 => (if (t162 != t161) = true then (some false) else ((cofferref15_Copy.f a0_0 l0_1).bind fun bt163 => ((delta_Apply.f bt163.1 bt163.2 a1_0 t156 t157).bind fun bt167 => ((cofferref19_Apply.f k a0_0 l0_1 a1_0 a1_1 l1_2).bind fun bt173 => (if t161 = true then ((cofferref15_Right.f a0_0 l0_1).bind fun t179 => (if t179 = true then (if bt167.2.2 = bt173.2.2 then ((cofferref15_Same.f bt167.1 bt167.2.1 bt173.1 bt173.2.1).bind fun t180 => (some t180)) else (some false)) else (some true))) else (some true))))))) = some r := H
  have A6 := Aside0.mk A60
  clear A60
  replace H := Option.bind_eq_some_iff.mp H
  obtain ⟨t162, A70, H⟩ := H
  replace H : (if (t162 != t161) = true then (some false) else ((cofferref15_Copy.f a0_0 l0_1).bind fun bt163 => ((delta_Apply.f bt163.1 bt163.2 a1_0 t156 t157).bind fun bt167 => ((cofferref19_Apply.f k a0_0 l0_1 a1_0 a1_1 l1_2).bind fun bt173 => (if t161 = true then ((cofferref15_Right.f a0_0 l0_1).bind fun t179 => (if t179 = true then (if bt167.2.2 = bt173.2.2 then ((cofferref15_Same.f bt167.1 bt167.2.1 bt173.1 bt173.2.1).bind fun t180 => (some t180)) else (some false)) else (some true))) else (some true)))))) = some r := H
  have A7 := Aside0.mk A70
  clear A70
  by_cases c8 : (t162 != t161) = true
  ·
   rw [if_pos c8] at H
   have c8b0 : (t162 != t161) = true := c8
   (try (have c8b1 : decide (t162 = t161) = false := by simpa using c8))
   (try (have c8b2 : (t162 == t161) = false := by simpa using c8))
   (try (have c8b3 : ¬ (t162 = t161) := by simpa using c8))
   clear c8
   obtain rfl := Option.some.inj H
   cases ht
  ·
   rw [if_neg c8] at H
   have c8b0 : (t162 != t161) = false := by simpa using c8
   (try (have c8b1 : decide (t162 = t161) = true := by simpa using c8))
   (try (have c8b2 : (t162 == t161) = true := by simpa using c8))
   clear c8
   replace H := Option.bind_eq_some_iff.mp H
   obtain ⟨⟨t163, t164⟩, A280, H⟩ := H
   replace H : ((delta_Apply.f t163 t164 a1_0 t156 t157).bind fun bt167 => ((cofferref19_Apply.f k a0_0 l0_1 a1_0 a1_1 l1_2).bind fun bt173 => (if t161 = true then ((cofferref15_Right.f a0_0 l0_1).bind fun t179 => (if t179 = true then (if bt167.2.2 = bt173.2.2 then ((cofferref15_Same.f bt167.1 bt167.2.1 bt173.1 bt173.2.1).bind fun t180 => (some t180)) else (some false)) else (some true))) else (some true)))) = some r := H
   have A28 := Aside0.mk A280
   clear A280
   replace H := Option.bind_eq_some_iff.mp H
   obtain ⟨⟨t167, t168, t171⟩, A290, H⟩ := H
   replace H : ((cofferref19_Apply.f k a0_0 l0_1 a1_0 a1_1 l1_2).bind fun bt173 => (if t161 = true then ((cofferref15_Right.f a0_0 l0_1).bind fun t179 => (if t179 = true then (if t171 = bt173.2.2 then ((cofferref15_Same.f t167 t168 bt173.1 bt173.2.1).bind fun t180 => (some t180)) else (some false)) else (some true))) else (some true))) = some r := H
   have A29 := Aside0.mk A290
   clear A290
   replace H := Option.bind_eq_some_iff.mp H
   obtain ⟨⟨t173, t174, t177⟩, A300, H⟩ := H
   replace H : (if t161 = true then ((cofferref15_Right.f a0_0 l0_1).bind fun t179 => (if t179 = true then (if t171 = t177 then ((cofferref15_Same.f t167 t168 t173 t174).bind fun t180 => (some t180)) else (some false)) else (some true))) else (some true)) = some r := H
   have A30 := Aside0.mk A300
   clear A300
   by_cases c31 : t161 = true
   ·
    subst c31
    have H1 : ((cofferref15_Right.f a0_0 l0_1).bind fun t179 => (if t179 = true then (if t171 = t177 then ((cofferref15_Same.f t167 t168 t173 t174).bind fun t180 => (some t180)) else (some false)) else (some true))) = some r := by rw [if_pos rfl] at H; exact H
    clear H
    have H := H1
    clear H1
    replace H := Option.bind_eq_some_iff.mp H
    obtain ⟨t179, A320, H⟩ := H
    replace H : (if t179 = true then (if t171 = t177 then ((cofferref15_Same.f t167 t168 t173 t174).bind fun t180 => (some t180)) else (some false)) else (some true)) = some r := H
    have A32 := Aside0.mk A320
    clear A320
    by_cases c33 : t179 = true
    ·
     subst c33
     have H1 : (if t171 = t177 then ((cofferref15_Same.f t167 t168 t173 t174).bind fun t180 => (some t180)) else (some false)) = some r := by rw [if_pos rfl] at H; exact H
     clear H
     have H := H1
     clear H1
     by_cases c34 : t171 = t177
     ·
      rw [if_pos c34] at H
      have c34b0 : (t171 == t177) = true := beq_iff_eq.mpr c34
      have c34b1 : (t171 != t177) = false := bne_eq_false_iff_eq.mpr c34
      clear c34
      replace H := Option.bind_eq_some_iff.mp H
      obtain ⟨t180, A350, H⟩ := H
      replace H : (some t180) = some r := H
      have A35 := Aside0.mk A350
      clear A350
      obtain rfl := Option.some.inj H
      exact cofferlaw19_DeltaApplies.calls_way1 k a0_0 A0_1 c0_1 l0_1 a1_0 a1_1 A1_2 c1_2 l1_2 w hu24 hu27 HR0_1 HC0_1 HR1_2 HC1_2 HB A3 t156 t157 A5 t162 A7 t163 t164 A28 t167 t168 t171 A29 t173 t174 t177 A30 A6 c8b0 c8b1 c8b2 A32 c34b0 c34b1 t180 A35 H
     ·
      rw [if_neg c34] at H
      have c34b0 : (t171 == t177) = false := beq_eq_false_iff_ne.mpr c34
      have c34b1 : (t171 != t177) = true := bne_iff_ne.mpr c34
      obtain rfl := Option.some.inj H
      cases ht
    ·
     replace c33 := Bool.eq_false_iff.mpr c33
     subst c33
     have H1 : (some true) = some r := by rw [if_neg (show ¬ (false = true) by decide)] at H; exact H
     clear H
     have H := H1
     clear H1
     obtain rfl := Option.some.inj H
     exact cofferlaw19_DeltaApplies.calls_way3 k a0_0 A0_1 c0_1 l0_1 a1_0 a1_1 A1_2 c1_2 l1_2 w hu24 hu27 HR0_1 HC0_1 HR1_2 HC1_2 HB A3 t156 t157 A5 t162 A7 t163 t164 A28 t167 t168 t171 A29 t173 t174 t177 A30 A6 c8b0 c8b1 c8b2 A32 H
   ·
    replace c31 := Bool.eq_false_iff.mpr c31
    subst c31
    have H1 : (some true) = some r := by rw [if_neg (show ¬ (false = true) by decide)] at H; exact H
    clear H
    have H := H1
    clear H1
    obtain rfl := Option.some.inj H
    exact cofferlaw19_DeltaApplies.calls_way4 k a0_0 A0_1 c0_1 l0_1 a1_0 a1_1 A1_2 c1_2 l1_2 w hu24 hu27 HR0_1 HC0_1 HR1_2 HC1_2 HB A3 t156 t157 A5 t162 A7 t163 t164 A28 t167 t168 t171 A29 t173 t174 t177 A30 A6 c8b0 c8b1 c8b2 H
 ·
  replace c4 := Bool.eq_false_iff.mpr c4
  subst c4
  have H1 : (some false) = some r := by rw [if_neg (show ¬ (false = true) by decide)] at H; exact H
  clear H
  have H := H1
  clear H1
  obtain rfl := Option.some.inj H
  cases ht

end Go.Proofs.Ytbhdehkdnenigaa.PD4

set_option linter.unusedVariables false
set_option linter.unusedSimpArgs false
namespace Go.Proofs.Ytbhdehkdnenigaa
open Go.RowKit Go.Proofs.YtbhdehkdnenigaaW.PrintWords
attribute [local go_sem] Vn.val Vn.with

end Go.Proofs.Ytbhdehkdnenigaa

set_option linter.unusedVariables false
set_option linter.unusedSimpArgs false
namespace Go.Proofs.Ytbhdehkdnenigaa
open Go.RowKit Go.Proofs.YtbhdehkdnenigaaW.PrintWords

theorem va_iff (x y : Vn) : va x y = true ↔ Op.bytesLess x.key.toList y.key.toList = true ∨ (x.key.toList = y.key.toList ∧ x.seq < y.seq) := by
  simp [va]
theorem va_trans {x y z : Vn} (h1 : va x y = true) (h2 : va y z = true) : va x z = true := by
  rw [va_iff] at *
  rcases h1 with h1 | ⟨e1, h1⟩ <;> rcases h2 with h2 | ⟨e2, h2⟩
  · exact .inl (bl_trans h1 h2)
  · exact .inl (by rw [← e2]; exact h1)
  · exact .inl (by rw [e1]; exact h2)
  · exact .inr ⟨e1.trans e2, by omega⟩
theorem ord_va (x y : Vn) : ordE x y < 0 ↔ va x y = true := by
  rw [va_iff]
  unfold ordE cmpS cmpI
  rcases bl_tri x.key.toList y.key.toList with h | h | h
  · simp [h]
  · simp only [h, bl_irr, Bool.false_eq_true, if_false, false_or, true_and]
    by_cases h1 : x.seq < y.seq
    · simp [h1]
    · by_cases h2 : y.seq < x.seq
      · simp [h1, h2]
      · simp [h1, h2]
  · have h1 := bl_asym h
    have hne : x.key.toList ≠ y.key.toList := fun e => by rw [e, bl_irr] at h; cases h
    simp [h, h1, hne]
def Srt (l : List Vn) : Prop := l.Pairwise (fun x y => va x y = true ∧ x.seq ≠ y.seq)
structure Rt (l : List Vn) (nx : Int) : Prop where
  lo : 1 ≤ nx
  hi : nx ≤ 1099511627777
  len : l.length ≤ 256
  all : ∀ x ∈ l, wel x = true ∧ 1 ≤ x.seq ∧ x.seq < nx
  srt : Srt l
  bytes : bsize l ≤ 65536
theorem sum_le {l : List Nat} {b : Nat} (h : ∀ x ∈ l, x ≤ b) : l.sum ≤ l.length * b := by
  induction l with
  | nil => simp
  | cons x r ih =>
    have h1 := h x List.mem_cons_self
    have h2 := ih (fun y hy => h y (List.mem_cons_of_mem _ hy))
    rw [List.sum_cons, List.length_cons, Nat.add_mul]
    omega
theorem mok_all {l : List Pr} (h : mok l = true) : l.length ≤ 8 ∧ ∀ p ∈ l, p.n.size ≤ 16 ∧ p.v.size ≤ 64 := by
  simp only [mok, Bool.and_eq_true, decide_eq_true_eq, List.all_eq_true, List.mem_range] at h
  refine ⟨h.1, fun p hp => ?_⟩
  obtain ⟨i, hi, e⟩ := List.getElem_of_mem hp
  have := h.2 i hi
  rw [rdP_at hi] at e
  simp only [mg, e, sml, Bool.and_eq_true, decide_eq_true_eq] at this
  omega
theorem wel_size {x : Vn} (h : wel x = true) : vsize x ≤ 1728 := by
  simp only [wel, Bool.and_eq_true, beq_iff_eq] at h
  obtain ⟨⟨⟨h1, h2⟩, h3⟩, _⟩ := h
  have k1 : x.key.size ≤ 32 := by unfold keyE at h1; split at h1 <;> omega
  have k2 : x.data.size ≤ 1024 := by unfold dataE at h2; split at h2 <;> omega
  have k3 : mok x.pairs = true := by unfold metaE at h3; split at h3 <;> first | assumption | omega
  obtain ⟨k4, k5⟩ := mok_all k3
  have k6 : psizes x.pairs ≤ x.pairs.length * 80 := by
    unfold psizes
    have := sum_le (l := x.pairs.map psize) (b := 80) (fun y hy => by
      obtain ⟨p, hp, rfl⟩ := List.mem_map.1 hy
      have := k5 p hp
      unfold psize
      omega)
    rwa [List.length_map] at this
  unfold vsize
  have : x.pairs.length * 80 ≤ 640 := by omega
  omega
theorem bsize_small {l : List Vn} (h : ∀ x ∈ l, wel x = true) (hl : l.length ≤ 256) : bsize l ≤ 442368 := by
  have := sum_le (l := l.map vsize) (b := 1728) (fun y hy => by
    obtain ⟨x, hx, rfl⟩ := List.mem_map.1 hy
    exact wel_size (h x hx))
  rw [List.length_map] at this
  unfold bsize
  omega
theorem gd_iff (l : List Vn) (nx : Int) (i : Nat) : gd l nx i = true ↔ wel (rdV l i) = true ∧ 1 ≤ (rdV l i).seq ∧ (rdV l i).seq < nx ∧ (i = 0 ∨ va (rdV l (i - 1)) (rdV l i) = true) ∧ ∀ j, j < i → (rdV l j).seq ≠ (rdV l i).seq := by
  simp only [gd, apartTo, Bool.and_eq_true, Bool.or_eq_true, decide_eq_true_eq, beq_iff_eq, bne_iff_ne, List.all_eq_true, List.mem_range, and_assoc]
theorem right_iff (l : List Vn) (nx : Int) : rightV l nx = true ↔ Rt l nx := by
  have hgds : gds l nx = true ↔ ∀ i, i < l.length → gd l nx i = true := by
    simp only [gds, List.all_eq_true, List.mem_range]
  constructor
  · intro h
    simp only [rightV, Bool.and_eq_true, decide_eq_true_eq] at h
    obtain ⟨⟨⟨⟨h1, h2⟩, h3⟩, h4⟩, h5⟩ := h
    have hg := fun i hi => (gd_iff l nx i).1 (hgds.1 h4 i hi)
    have hall : ∀ x ∈ l, wel x = true ∧ 1 ≤ x.seq ∧ x.seq < nx := fun x hx => by
      obtain ⟨i, hi, e⟩ := List.getElem_of_mem hx
      rw [rdV_at hi] at e
      have := hg i hi
      rw [e] at this
      exact ⟨this.1, this.2.1, this.2.2.1⟩
    have hb := bsize_small (fun x hx => (hall x hx).1) h3
    rw [w64_nat (by omega)] at h5
    have hva : ∀ d i, i + d + 1 < l.length → va (rdV l i) (rdV l (i + d + 1)) = true := by
      intro d
      induction d with
      | zero =>
        intro i hi
        have := (hg (i + 1) (by omega)).2.2.2.1
        simpa using this
      | succ d ih =>
        intro i hi
        have h1 := ih i (by omega)
        have h2 := (hg (i + d + 1 + 1) (by omega)).2.2.2.1
        have h2' : va (rdV l (i + d + 1)) (rdV l (i + d + 1 + 1)) = true := by simpa using h2
        exact va_trans h1 h2'
    refine ⟨h1, h2, h3, hall, ?_, by omega⟩
    unfold Srt
    rw [List.pairwise_iff_getElem]
    intro i j hi hj hij
    rw [rdV_at hi, rdV_at hj]
    obtain ⟨d, rfl⟩ : ∃ d, j = i + d + 1 := ⟨j - i - 1, by omega⟩
    exact ⟨hva d i hj, (hg _ hj).2.2.2.2 i (by omega)⟩
  · intro h
    have hs := h.srt
    unfold Srt at hs
    rw [List.pairwise_iff_getElem] at hs
    have hg : gds l nx = true := hgds.2 (fun i hi => by
      rw [gd_iff]
      have hm := h.all _ (rdV_mem hi)
      refine ⟨hm.1, hm.2.1, hm.2.2, ?_, fun j hj => ?_⟩
      · by_cases h0 : i = 0
        · exact .inl h0
        · have := (hs (i - 1) i (by omega) hi (by omega)).1
          rw [rdV_at, rdV_at] at this
          exact .inr this
      · have := (hs j i (by omega) hi hj).2
        rwa [rdV_at, rdV_at] at this)
    have hb := h.bytes
    simp only [rightV, hg, w64_nat (show bsize l ≤ 9223372036854775807 by omega), Bool.and_eq_true, decide_eq_true_eq]
    exact ⟨⟨⟨⟨h.lo, h.hi⟩, h.len⟩, trivial⟩, by omega⟩
theorem bsize_filter (l : List Vn) (p : Vn → Bool) : bsize (l.filter p) ≤ bsize l := by
  induction l with
  | nil => simp
  | cons x r ih =>
    unfold bsize at *
    rw [List.filter_cons]
    split <;> simp only [List.map_cons, List.sum_cons] <;> omega
theorem Rt.filter {l : List Vn} {nx nx' : Int} (h : Rt l nx) (p : Vn → Bool) (h1 : 1 ≤ nx') (h2 : nx' ≤ 1099511627777) (hp : ∀ x ∈ l, p x = true → x.seq < nx') : Rt (l.filter p) nx' :=
  ⟨h1, h2, Nat.le_trans (List.length_filter_le _ _) h.len, fun x hx => by
    obtain ⟨hx, hpx⟩ := List.mem_filter.1 hx
    have := h.all x hx
    exact ⟨this.1, this.2.1, hp x hx hpx⟩, h.srt.filter p, Nat.le_trans (bsize_filter l p) h.bytes⟩
theorem since_all {l : List Vn} (h : ∀ x ∈ l, 1 ≤ x.seq) : since l (-9223372036854775808) = l := by
  unfold since
  rw [List.filter_eq_self]
  intro x hx
  have := h x hx
  exact decide_eq_true (by omega)
theorem Rt.since {l : List Vn} {nx m : Int} (h : Rt l nx) : Rt (since l m) nx :=
  h.filter _ h.lo h.hi (fun x hx _ => (h.all x hx).2.2)
end Go.Proofs.Ytbhdehkdnenigaa

set_option linter.unusedVariables false
set_option linter.unusedSimpArgs false
namespace Go.Proofs.Ytbhdehkdnenigaa
open Go.RowKit Go.Proofs.YtbhdehkdnenigaaW.PrintWords

theorem mrg_ind {P : List Vn → List Vn → List Vn → Prop} (h0 : ∀ m, P [] m m) (h1 : ∀ l, P l [] l) (h2 : ∀ x l y m, va y x = true → P (x :: l) m (mrg (x :: l) m) → P (x :: l) (y :: m) (y :: mrg (x :: l) m))
    (h3 : ∀ x l y m, va y x = false → P l (y :: m) (mrg l (y :: m)) → P (x :: l) (y :: m) (x :: mrg l (y :: m))) : ∀ n l m, l.length + m.length ≤ n → P l m (mrg l m) := by
  intro n
  induction n with
  | zero =>
    intro l m h
    obtain rfl : l = [] := List.eq_nil_of_length_eq_zero (by omega)
    obtain rfl : m = [] := List.eq_nil_of_length_eq_zero (by omega)
    rw [mrg_end (.inl rfl)]
    exact h0 []
  | succ n ih =>
    intro l m h
    match l, m with
    | [], m => rw [mrg_end (.inl rfl)]; exact h0 m
    | x :: l, [] => rw [mrg_end (.inr rfl), List.append_nil]; exact h1 _
    | x :: l, y :: m =>
      simp only [List.length_cons] at h
      rw [mrg]
      by_cases q : ordE y x < 0
      · rw [if_pos q]
        exact h2 x l y m ((ord_va y x).1 q) (ih _ _ (by simp only [List.length_cons]; omega))
      · rw [if_neg q]
        refine h3 x l y m ?_ (ih _ _ (by simp only [List.length_cons]; omega))
        rw [Bool.eq_false_iff]
        exact fun e => q ((ord_va y x).2 e)
theorem len_mrg (l m : List Vn) : (mrg l m).length = l.length + m.length := by
  refine mrg_ind (P := fun l m r => r.length = l.length + m.length) (fun m => by simp) (fun l => by simp) (fun x l y m _ h => ?_) (fun x l y m _ h => ?_) _ l m (Nat.le_refl _)
  · simp only [List.length_cons] at h ⊢; omega
  · simp only [List.length_cons] at h ⊢; omega
theorem bsize_mrg (l m : List Vn) : bsize (mrg l m) = bsize l + bsize m := by
  refine mrg_ind (P := fun l m r => bsize r = bsize l + bsize m) (fun m => by simp [bsize]) (fun l => by simp [bsize]) (fun x l y m _ h => ?_) (fun x l y m _ h => ?_) _ l m (Nat.le_refl _)
  · simp only [bsize, List.map_cons, List.sum_cons] at h ⊢; omega
  · simp only [bsize, List.map_cons, List.sum_cons] at h ⊢; omega
structure Dt (k : List Vn) (nx s : Int) : Prop where
  rt : Rt k nx
  s1 : 1 ≤ s
  s2 : s ≤ nx
  late : ∀ x ∈ k, s ≤ x.seq
theorem rightD_iff (k : List Vn) (nx s : Int) : rightD k nx s = true ↔ Dt k nx s := by
  simp only [rightD, Bool.and_eq_true, decide_eq_true_eq, List.all_eq_true, right_iff]
  exact ⟨fun h => ⟨h.1.1.1, h.1.1.2, h.1.2, h.2⟩, fun h => ⟨⟨⟨h.rt, h.s1⟩, h.s2⟩, h.late⟩⟩
theorem lay_all {l k : List Vn} {n1 n2 : Int} (h : Rt l n1) (d : Rt k n2) : mrg (since l (-9223372036854775808)) (since k (-9223372036854775808)) = mrg l k := by
  rw [since_all (fun x hx => (h.all x hx).2.1), since_all (fun x hx => (d.all x hx).2.1)]
end Go.Proofs.Ytbhdehkdnenigaa

set_option linter.unusedVariables false
set_option linter.unusedSimpArgs false
namespace Go.Proofs.Ytbhdehkdnenigaa
open Go.RowKit Go.Proofs.YtbhdehkdnenigaaW.PrintWords PDeltaLaid

def fin19 (L : List Vn) (n2 : Int) : Int × List S48 × Int := if L.length > 256 then (0, [], 75) else if wrap64 (bsize L) > 65536 then (0, [], 76) else (n2, L.map to48, 0)
theorem own48 {x : Vn} (h : x.pairs.length * 32 ≤ 140737488351232) : PD4.cofferref15_Own.f (to48 x).f0 (to48 x).f1 (to48 x).f2 (to48 x).f3 (to48 x).f4 = some ((to48 x).f0, (to48 x).f1, (to48 x).f2, (to48 x).f3, (to48 x).f4) := by
  unfold PD4.cofferref15_Own.f
  rw [if_pos]
  show (x.pairs.map to60).length * 32 ≤ _
  rw [List.length_map]; omega
theorem ahead4 (x y : Vn) : PD4.cofferref19_ahead.f (to48 x).f0 (to48 x).f1 (to48 x).f2 (to48 x).f3 (to48 x).f4 (to48 y).f0 (to48 y).f1 (to48 y).f2 (to48 y).f3 (to48 y).f4 = some (va x y) := by
  have e : of48 ⟨(to48 x).f0, (to48 x).f1, (to48 x).f2, (to48 x).f3, (to48 x).f4⟩ = x := of_to48 x
  have e2 : of48 ⟨(to48 y).f0, (to48 y).f1, (to48 y).f2, (to48 y).f3, (to48 y).f4⟩ = y := of_to48 y
  unfold PD4.cofferref19_ahead.f
  rw [e, e2]
theorem bytes4 (nx : Int) (l : List Vn) (h : ∀ x ∈ l, x.Fits) : PD4.cofferref15_Bytes.f nx (l.map to48) = some (wrap64 (bsize l)) := by
  unfold PD4.cofferref15_Bytes.f
  rw [of_to48s, if_pos (List.all_eq_true.2 (fun x hx => (fitsB_iff x).2 (h x hx)))]
theorem snoc48 (acc : List Vn) (x : Vn) : acc.map to48 ++ [(⟨(to48 x).f0, (to48 x).f1, (to48 x).f2, (to48 x).f3, (to48 x).f4⟩ : S48)] = (acc ++ [x]).map to48 := by rw [List.map_append]; rfl
theorem drop_rd {l : List Vn} {i : Nat} (h : i < l.length) : l.drop i = rdV l i :: l.drop (i + 1) := by rw [List.drop_eq_getElem_cons h, rdV_at]
theorem mrg_l0 (l m : List Vn) : mrg (l.drop l.length) m = m := by rw [List.drop_length, mrg_end (.inl rfl), List.nil_append]
theorem mrg_r0 (l m : List Vn) : mrg l (m.drop m.length) = l := by rw [List.drop_length, mrg_end (.inr rfl), List.append_nil]
theorem a2_ev (m : List Vn) (s n2 : Int) (HQ : Room m) :
    ∀ d k acc, k + d = m.length → acc.length + d ≤ 1099511627776 → (∀ x ∈ acc, x.Fits) → ∃ K, PD4.cofferref19_Apply.l2 K (k : Int) s n2 (m.map to48) n2 (acc.map to48) = some (fin19 (acc ++ m.drop k) n2) := by
  have hlen := HQ.len
  intro d
  induction d with
  | zero =>
    intro k acc hk ha hf
    obtain rfl : k = m.length := by omega
    refine ⟨1, ?_⟩
    rw [PD4.cofferref19_Apply.l2, if_neg (by simp), List.drop_length, List.append_nil, bytes4 _ _ hf]
    unfold fin19
    by_cases h1 : acc.length > 256
    · rw [if_pos h1, if_pos (by rw [List.length_map]; omega)]
    · rw [if_neg h1, if_neg (by rw [List.length_map]; omega), Option.bind_some]
      by_cases h2 : wrap64 (bsize acc) > 65536
      · rw [if_pos h2, if_pos h2]
      · rw [if_neg h2, if_neg h2]
  | succ d ih =>
    intro k acc hk ha hf
    have hlt : k < m.length := by omega
    have hm := rdV_mem hlt
    obtain ⟨K, hK⟩ := ih (k + 1) (acc ++ [rdV m k]) (by omega) (by simp; omega) (fun x hx => by
      rcases List.mem_append.1 hx with hx | hx
      · exact hf x hx
      · rw [List.mem_singleton.1 hx]; exact HQ.fits _ hm)
    refine ⟨K + 1, ?_⟩
    rw [PD4.cofferref19_Apply.l2, if_pos (by simp; omega), if_pos (by omega), rd48 hlt, own48 (HQ.pairs _ hm), Option.bind_some, if_pos (by rw [List.length_map]; omega), snoc48, show ((k : Int) + 1) = ((k + 1 : Nat) : Int) by omega, w64_nat (by omega), hK, drop_rd hlt, List.append_assoc, List.singleton_append]
theorem a1_ev (l m : List Vn) (nx s n2 : Int) (HR : Room l) (HQ : Room m) :
    ∀ d i k acc, (l.length - i) + (m.length - k) ≤ d → i ≤ l.length → k ≤ m.length → acc.length + (l.length - i) + (m.length - k) ≤ 1099511627776 → (∀ x ∈ acc, x.Fits) →
      (∃ K, PD4.cofferref19_Apply.l0 K (k : Int) (i : Int) nx (l.map to48) s n2 (m.map to48) n2 (acc.map to48) = some (fin19 (acc ++ mrg (l.drop i) (m.drop k)) n2)) ∧
      (i < l.length → ∃ K, PD4.cofferref19_Apply.l1 K (k : Int) (i : Int) nx (l.map to48) s n2 (m.map to48) n2 (acc.map to48) = some (fin19 (acc ++ mrg (l.drop i) (m.drop k)) n2)) := by
  have hl1 := HR.len
  have hl2 := HQ.len
  intro d
  induction d with
  | zero =>
    intro i k acc hd hi hk ha hf
    obtain rfl : i = l.length := by omega
    obtain rfl : k = m.length := by omega
    refine ⟨?_, fun h => by omega⟩
    obtain ⟨K, hK⟩ := a2_ev m s n2 HQ 0 m.length acc (by omega) (by omega) hf
    refine ⟨K + 1, ?_⟩
    rw [PD4.cofferref19_Apply.l0, if_neg (by simp), hK, mrg_l0]
  | succ d ih =>
    intro i k acc hd hi hk ha hf
    have key : i < l.length → ∃ K, PD4.cofferref19_Apply.l1 K (k : Int) (i : Int) nx (l.map to48) s n2 (m.map to48) n2 (acc.map to48) = some (fin19 (acc ++ mrg (l.drop i) (m.drop k)) n2) := by
      intro hlt
      have hm := rdV_mem hlt
      have hx := drop_rd hlt
      have hfx : ∀ x ∈ acc ++ [rdV l i], x.Fits := fun x hx => by
        rcases List.mem_append.1 hx with hx | hx
        · exact hf x hx
        · rw [List.mem_singleton.1 hx]; exact HR.fits _ hm
      obtain ⟨⟨K1, hK1⟩, _⟩ := ih (i + 1) k (acc ++ [rdV l i]) (by omega) (by omega) hk (by simp; omega) hfx
      by_cases hkt : k < m.length
      · have hm2 := rdV_mem hkt
        have hy := drop_rd hkt
        cases hv : va (rdV m k) (rdV l i) with
        | true =>
          obtain ⟨_, h2⟩ := ih i (k + 1) (acc ++ [rdV m k]) (by omega) hi (by omega) (by simp; omega) (fun x hx => by
            rcases List.mem_append.1 hx with hx | hx
            · exact hf x hx
            · rw [List.mem_singleton.1 hx]; exact HQ.fits _ hm2)
          obtain ⟨K, hK⟩ := h2 hlt
          refine ⟨K + 1, ?_⟩
          rw [PD4.cofferref19_Apply.l1, if_pos (by simp; omega), if_pos (by omega), if_pos (by omega), if_pos (by simp; omega), rd48 hlt, rd48 hkt, ahead4, Option.bind_some, if_pos hv, own48 (HQ.pairs _ hm2), Option.bind_some, if_pos (by rw [List.length_map]; omega), snoc48, show ((k : Int) + 1) = ((k + 1 : Nat) : Int) by omega, w64_nat (by omega), hK, hx, hy]
          conv => rhs; rw [mrg, if_pos ((ord_va _ _).2 hv)]
          rw [List.append_assoc, List.singleton_append]
        | false =>
          refine ⟨K1 + 1, ?_⟩
          rw [PD4.cofferref19_Apply.l1, if_pos (by simp; omega), if_pos (by omega), if_pos (by omega), if_pos (by simp; omega), rd48 hlt, rd48 hkt, ahead4, Option.bind_some, if_neg (by rw [hv]; simp), own48 (HR.pairs _ hm), Option.bind_some, if_pos (by rw [List.length_map]; omega), snoc48, show ((i : Int) + 1) = ((i + 1 : Nat) : Int) by omega, w64_nat (by omega), hK1, hx, hy]
          conv => rhs; rw [mrg, if_neg (fun e => by rw [(ord_va _ _).1 e] at hv; cases hv)]
          rw [List.append_assoc, List.singleton_append]
      · obtain rfl : k = m.length := by omega
        refine ⟨K1 + 1, ?_⟩
        rw [PD4.cofferref19_Apply.l1, if_neg (by simp), if_pos (by omega), if_pos (by simp; omega), rd48 hlt, own48 (HR.pairs _ hm), Option.bind_some, if_pos (by rw [List.length_map]; omega), snoc48, show ((i : Int) + 1) = ((i + 1 : Nat) : Int) by omega, w64_nat (by omega), hK1, mrg_r0, mrg_r0, hx, List.append_assoc, List.singleton_append]
    refine ⟨?_, key⟩
    by_cases hlt : i < l.length
    · obtain ⟨K, hK⟩ := key hlt
      refine ⟨K + 1, ?_⟩
      rw [PD4.cofferref19_Apply.l0, if_pos (by simp; omega), hK]
    · obtain rfl : i = l.length := by omega
      obtain ⟨K, hK⟩ := a2_ev m s n2 HQ (m.length - k) k acc (by omega) (by omega) hf
      refine ⟨K + 1, ?_⟩
      rw [PD4.cofferref19_Apply.l0, if_neg (by simp), hK, mrg_l0]
theorem apply19_ev (l m : List Vn) (nx s n2 : Int) (HR : Room l) (HQ : Room m) (h : l.length + m.length ≤ 1099511627776) :
    ∃ K, PD4.cofferref19_Apply.f K nx (l.map to48) s n2 (m.map to48) = some (if s = nx then fin19 (mrg l m) n2 else (0, [], 91)) := by
  by_cases hs : s = nx
  · obtain ⟨⟨K, hK⟩, _⟩ := a1_ev l m nx s n2 HR HQ _ 0 0 [] (Nat.le_refl _) (Nat.zero_le _) (Nat.zero_le _) (by simp; omega) (fun x hx => by cases hx)
    refine ⟨K, ?_⟩
    unfold PD4.cofferref19_Apply.f
    rw [if_pos hs, if_pos hs]
    simpa using hK
  · exact ⟨0, by unfold PD4.cofferref19_Apply.f; rw [if_neg hs, if_neg hs]⟩
theorem dRightV_eq (k : List Vn) (nx s : Int) : dRightV k nx s = rightD k nx s := by
  have h : (!oldF k s) = k.all (fun v => decide (s ≤ v.seq)) := by
    unfold oldF
    rw [List.not_any_eq_all_not]
    congr 1
    funext v
    rw [Bool.eq_iff_iff]
    simp
  unfold dRightV rightD
  rw [h]
  cases decide (1 ≤ s) <;> cases decide (s ≤ nx) <;> cases rightV k nx <;> cases k.all (fun v => decide (s ≤ v.seq)) <;> rfl
theorem wrap_add (a b : Nat) : wrap64 (wrap64 a + wrap64 b) = wrap64 ((a + b : Nat) : Int) := by unfold wrap64; omega
theorem applies_ev (l m : List Vn) (nx s n2 : Int) (HR : Room l) (HQ : Room m) (h : l.length + m.length ≤ 1099511627776) :
    ∃ K, PD4.cofferlaw19_DeltaApplies.f K nx (l.map to48) s n2 (m.map to48) = some true := by
  obtain ⟨K, hK⟩ := apply19_ev l m nx s n2 HR HQ h
  refine ⟨K, ?_⟩
  have cl : PD4.cofferref15_Copy.f nx (l.map to48) = some (nx, l.map to48) := by unfold PD4.cofferref15_Copy.f; rw [of_to48s, if_pos ((roomB_iff _).2 HR)]
  have cm : PD4.cofferref15_Copy.f n2 (m.map to48) = some (n2, m.map to48) := by unfold PD4.cofferref15_Copy.f; rw [of_to48s, if_pos ((roomB_iff _).2 HQ)]
  have r1 : PD4.cofferref19_Right.f s n2 (m.map to48) = some (rightD m n2 s) := by unfold PD4.cofferref19_Right.f; rw [of_to48s, if_pos (List.all_eq_true.2 (fun x hx => (fitsB_iff x).2 (HQ.fits x hx)))]
  have r2 : PD4.delta_Right.f s n2 (m.map to48) = some (rightD m n2 s) := by unfold PD4.delta_Right.f; rw [of_to48s, if_pos (List.all_eq_true.2 (fun x hx => (fitsB_iff x).2 (HQ.fits x hx))), dRightV_eq]
  have r3 : PD4.cofferref15_Right.f nx (l.map to48) = some (rightV l nx) := by unfold PD4.cofferref15_Right.f; rw [of_to48s, if_pos (List.all_eq_true.2 (fun x hx => (fitsB_iff x).2 (HR.fits x hx)))]
  obtain ⟨A, hA, hA2⟩ : ∃ A, PD4.delta_Apply.f nx (l.map to48) s n2 (m.map to48) = some A ∧ (rightD m n2 s = true → rightV l nx = true → A = if s = nx then fin19 (mrg l m) n2 else (0, [], 91)) := by
    unfold PD4.delta_Apply.f
    rw [of_to48s, of_to48s, if_pos ⟨(roomB_iff _).2 HR, (roomB_iff _).2 HQ⟩, List.length_map, List.length_map]
    by_cases hs : s = nx
    · subst hs
      rw [if_pos rfl, if_pos rfl]
      by_cases h2 : l.length + m.length ≤ 256
      · rw [if_pos h2]
        by_cases h3 : wrap64 (wrap64 (bsize l) + wrap64 (bsize m)) ≤ 65536
        · rw [if_pos h3]
          refine ⟨_, rfl, fun hd hr => ?_⟩
          have rt := (right_iff _ _).1 hr
          have dt := (rightD_iff _ _ _).1 hd
          unfold fin19
          rw [len_mrg, if_neg (by omega), bsize_mrg, ← wrap_add, if_neg (by omega), show all64 = -9223372036854775808 from rfl, lay_all rt dt.rt]
        · rw [if_neg h3]
          refine ⟨_, rfl, fun hd hr => ?_⟩
          unfold fin19
          rw [len_mrg, if_neg (by omega), bsize_mrg, ← wrap_add, if_pos (by omega)]
      · rw [if_neg h2]
        refine ⟨_, rfl, fun hd hr => ?_⟩
        unfold fin19
        rw [len_mrg, if_pos (by omega)]
    · rw [if_neg hs, if_neg hs]
      exact ⟨_, rfl, fun _ _ => rfl⟩
  unfold PD4.cofferlaw19_DeltaApplies.f
  unfold PD4.cofferlaw19_first.f
  simp only [Option.bind_some, if_true, cl, cm, r1, r2, r3, hK, hA]
  rw [if_neg (by simp)]
  by_cases hd : rightD m n2 s = true
  · rw [if_pos hd]
    by_cases hr : rightV l nx = true
    · rw [if_pos hr, hA2 hd hr, if_pos rfl]
      unfold PD4.cofferref15_Same.f
      simp [sVns]
    · rw [if_neg hr]
  · rw [if_neg hd]
theorem applies_any (l m : List Vn) (nx s n2 : Int) (A B : Option Addr) (c d : Nat) (w : World) (hC : kVn.C w A l.length l) (hl : l.length ≤ c) (HR : Room l) (hD : kVn.C w B m.length m) (hm : m.length ≤ d) (HQ : Room m) (h : l.length + m.length ≤ 1099511627776) :
    Calls Try.prog 4 #[.agg #[.int .i64 nx, .slice A l.length c], .agg #[.int .i64 s, .int .i64 n2, .slice B m.length d]] w fun e w' => e = .returned (.bool true) ∧ Below w.heap.size w w' := by
  obtain ⟨K, hK⟩ := applies_ev l m nx s n2 HR HQ h
  have := PD4.cofferlaw19_DeltaApplies.calls K nx A c (l.map to48) s n2 B d (m.map to48) true w (by simpa using C_to48 hC) (by simpa using hl) (by simpa using C_to48 hD) (by simpa using hm) hK rfl
  simpa using this
end Go.Proofs.Ytbhdehkdnenigaa

set_option linter.unusedVariables false
set_option linter.unusedSimpArgs false
namespace Go.Proofs.Ytbhdehkdnenigaa
open Go.ChangeShapes Go.WideShapes Go.ChangeAt Go.RowKit
theorem own : ownKnob Try.prog.godebug = none := by kernel_rfl
theorem laidOut : laidOutB Try.prog = true := by kernel_rfl
theorem trodAll_below {H : Type} {enc : TypeId × Value → H} {W W' : World} (hb : Below W.heap.size W W') : ∀ (ts : List TypeId) (vs : List Value) (ds : List (DataW H)) (ps : List MemPlace),
    (∀ t ∈ ts, Try.prog.readableRec t = true ∧ t < Try.prog.types.size) → DataW.TrodAll enc Try.prog W 0 (fun _ => true) true ts vs ds ps → (∀ x ∈ ps, x.block < W.heap.size) →
    DataW.TrodAll enc Try.prog W' 0 (fun b => decide (b < W.heap.size)) true ts vs ds ps
  | [], [], [], _, _, h, _ => h
  | t :: ts, v :: vs, d :: ds, ps, hr, ⟨p, q, h1, h2, e⟩, hlt => by
    subst e
    have ht := hr t List.mem_cons_self
    exact ⟨p, q, Below.trod laidOut ht.1 ht.2 h1 hb (fun x hx => hlt x (List.mem_append_left _ hx)), trodAll_below hb ts vs ds q (fun x hx => hr x (List.mem_cons_of_mem _ hx)) h2 (fun x hx => hlt x (List.mem_append_right _ hx)), rfl⟩
  | [], _ :: _, _, _, _, h, _ => h.elim
  | [], [], _ :: _, _, _, h, _ => h.elim
  | _ :: _, [], _, _, _, h, _ => h.elim
  | _ :: _, _ :: _, [], _, _, h, _ => h.elim
theorem law_post {H : Type} {enc : TypeId × Value → H} {s : ChangeSpec} {f : Func} {apart fresh handsOn : Bool} {W W' : World} {args : Array Value} {ds gs : List (DataW H)} {before : List MemPlace} {tb : TypeId}
    (hvars : s.vars = []) (hr : ∀ t ∈ f.params.toList, Try.prog.readableRec t = true ∧ t < Try.prog.types.size) (hres : f.resultTypes = #[tb]) (hbool : Try.prog.underlying tb = some .bool)
    (hfn : (s.fn H (ds ++ gs)).results = [.lit (.bool true)] ∧ (s.fn H (ds ++ gs)).args = ds ∧ (s.fn H (ds ++ gs)).vars = [])
    (hW : DataW.Whole enc Try.prog f.params.toList s.vars apart W args.toList ds gs before) (hb : Below W.heap.size W W') :
    s.post enc Try.prog f apart fresh handsOn false W args (.bool true) W' := by
  have hW' := hW
  have hlt := hW.lt
  obtain ⟨p, q, hA, hV, rfl, hfz, hnd⟩ := hW
  refine ⟨ds, gs, _, [], p, [], hW', ?_, ?_, ?_, hb.frame _, fun h => by cases h⟩
  · rw [hfn.1, hres]
    exact trodAll_mk1 (shut_bool hbool true)
  · rw [hfn.2.1]
    exact trodAll_below hb _ _ _ _ hr hA (fun x hx => hlt x (List.mem_append_left _ hx))
  · rw [hfn.2.2, hvars]
    rfl
end Go.Proofs.Ytbhdehkdnenigaa

set_option linter.unusedVariables false
set_option linter.unusedSimpArgs false
namespace Go.Proofs.Ytbhdehkdnenigaa
open Go.RowKit Go.ChangeShapes Go.WideShapes Go.Deep Go.Proofs.YtbhdehkdnenigaaW.PrintWords
section
variable {H : Type} {enc : TypeId × Value → H} {w : World} {base : Nat} {spare : Nat → Bool} {held : Bool}
abbrev Light (t : TypeId) (d : DataW H) : Prop := ∀ n ∈ d.weights Try.prog t, n ≤ reachBytes
theorem open_rows {α : Type} (d : Kd α) {t e : TypeId} {fuel B : Nat} {cs : List Value} {x : DataW H × List MemPlace} (ht : Try.prog.underlying t = some (.slice e)) (hC : Try.prog.cellsOf e = d.sz) (hB : Try.prog.bytesOf e = B) (Q : α → Prop)
    (hel : ∀ n cs' y, DataW.trod enc Try.prog w base spare held n e cs' = some y → Light e y.1 → ∃ a, d.K w a cs' ∧ Q a)
    (h : DataW.trod enc Try.prog w base spare held fuel t cs = some x) (hwt : Light t x.1) :
    ∃ (A : Option Addr) (c : Nat) (l : List α), cs = [.slice A l.length c] ∧ l.length ≤ c ∧ d.C w A l.length l ∧ l.length * B ≤ reachBytes ∧ ∀ a ∈ l, Q a := by
  rcases open_slice ht h with ⟨hcs, _⟩ | ⟨a, len, cap, m, n, D, Pl, hcs, hb, hl, hm, hmm, hx, hi⟩
  · exact ⟨none, 0, [], hcs, Nat.le_refl _, ⟨rfl, by simp, fun h => absurd h (by simp)⟩, by simp, fun a ha => by cases ha⟩
  · subst hx
    have hlm : len ≤ m := by rw [hmm]; split <;> omega
    have hw1 : (len + (m - len)) * Try.prog.bytesOf e ≤ reachBytes := by
      have := hwt _ (by simp only [DataW.weights, ht, List.length_map, List.length_range]; exact List.mem_cons_self)
      exact this
    have hw2 : ∀ i, i < len → Light e (D i) := fun i hi k hk => by
      apply hwt
      simp only [DataW.weights, ht]
      refine List.mem_cons_of_mem _ (List.mem_append_left _ ?_)
      have : ∀ (l : List (DataW H)) (z : DataW H), z ∈ l → ∀ k ∈ z.weights Try.prog e, k ∈ DataW.weightsAll Try.prog e l := by
        intro l
        induction l with
        | nil => intro z hz; cases hz
        | cons y r ih =>
          intro z hz k hk
          simp only [DataW.weightsAll, List.mem_append]
          rcases List.mem_cons.1 hz with rfl | hz
          · exact .inl hk
          · exact .inr (ih z hz k hk)
      exact this _ (D i) (List.mem_map_of_mem (List.mem_range.2 hi)) k hk
    have key : ∀ i : Nat, ∃ p : Option α, i < len → ∃ q cs', p = some q ∧ d.K w q cs' ∧ Q q ∧ cs'.length = d.sz ∧ ∀ j u, cs'[j]? = some u → w.cell? (a.add (i * d.sz + j)) = some u := fun i => by
      by_cases hlt : i < len
      · obtain ⟨cs', hc, ht'⟩ := hi i (by omega)
        obtain ⟨q, hk, hq⟩ := hel n cs' _ ht' (hw2 i hlt)
        obtain ⟨_, hcl, hat⟩ := World.cells?_some hc
        refine ⟨some q, fun _ => ⟨q, cs', rfl, hk, hq, by rw [hcl, hC], fun j u hu => ?_⟩⟩
        have hj : j < cs'.length := by
          rcases Nat.lt_or_ge j cs'.length with h | h
          · exact h
          · rw [List.getElem?_eq_none h] at hu; cases hu
        rw [← hC, ← Go.Deep.add_add, hat j (by omega), hu]
      · exact ⟨none, fun h => absurd h hlt⟩
    obtain ⟨f, hf⟩ := Classical.axiomOfChoice key
    have hlen : ((List.range len).filterMap f).length = len ∧ ∀ i, i < len → ((List.range len).filterMap f)[i]? = f i := by
      have hall : ∀ k, k ≤ len → ((List.range k).filterMap f).length = k ∧ ∀ i, i < k → ((List.range k).filterMap f)[i]? = f i := by
        intro k
        induction k with
        | zero => intro _; exact ⟨rfl, fun i hi => absurd hi (Nat.not_lt_zero _)⟩
        | succ k ih =>
          intro hk
          obtain ⟨h1, h2⟩ := ih (by omega)
          obtain ⟨q, _, e, _⟩ := hf k (by omega)
          rw [List.range_succ, List.filterMap_append]
          have e1 : List.filterMap f [k] = [q] := by simp [e]
          rw [e1]
          refine ⟨by rw [List.length_append, h1]; rfl, fun i hi => ?_⟩
          rcases Nat.lt_or_ge i k with h | h
          · rw [List.getElem?_append_left (by omega)]; exact h2 i h
          · obtain rfl : i = k := by omega
            rw [List.getElem?_append_right (by omega), h1, Nat.sub_self, e]; rfl
      exact hall len (Nat.le_refl _)
    refine ⟨some a, cap, (List.range len).filterMap f, by rw [hlen.1]; exact hcs, by rw [hlen.1]; exact hl, ?_, ?_, ?_⟩
    · rw [hlen.1]
      refine ⟨hlen.1, by have : maxLen = 9223372036854775807 := rfl; omega, fun _ => ⟨a, rfl, fun j p hj => ?_⟩⟩
      have hjl : j < len := by
        rcases Nat.lt_or_ge j len with h | h
        · exact h
        · rw [List.getElem?_eq_none (by rw [hlen.1]; exact h)] at hj; cases hj
      rw [hlen.2 j hjl] at hj
      obtain ⟨q, cs', e, hk, hq, hcl, hat⟩ := hf j hjl
      rw [e] at hj
      cases hj
      exact ⟨cs', hcl, hk, hat⟩
    · rw [hlen.1]
      rw [hB] at hw1
      exact Nat.le_trans (Nat.mul_le_mul_right _ (by omega)) hw1
    · intro z hz
      obtain ⟨i, hi, hzi⟩ := List.getElem_of_mem hz
      have hil : i < len := by rw [hlen.1] at hi; exact hi
      have h3 := hlen.2 i hil
      rw [List.getElem?_eq_getElem hi, hzi] at h3
      obtain ⟨q, cs', e, hk, hq, _⟩ := hf i hil
      rw [e] at h3
      cases h3
      exact hq
theorem open_fields {t : TypeId} {fs : Array Field} {fuel : Nat} {cs : List Value} {x : DataW H × List MemPlace} (ht : Try.prog.underlying t = some (.struct fs)) (hone : oneCellFields Try.prog fs = true) (hC : Try.prog.cellsOf t = fs.size)
    (h : DataW.trod enc Try.prog w base spare held fuel t cs = some x) (hwt : Light t x.1) :
    cs.length = fs.size ∧ ∃ (ys : List (DataW H × List MemPlace)) (n : Nat), x.1 = .agg (ys.map (·.1)) ∧ ys.length = fs.size ∧
      ∀ (j : Nat) (f : Field), fs[j]? = some f → ∃ (v : Value) (y : DataW H × List MemPlace), cs[j]? = some v ∧ ys[j]? = some y ∧ DataW.trod enc Try.prog w base spare held n f.type [v] = some y ∧ Light f.type y.1 := by
  obtain ⟨ys, n, _, hx, hcl, hyl, hf⟩ := DataW.trod_struct ht h
  subst hx
  refine ⟨by rw [hcl, hC], ys, n, rfl, hyl, fun j f hj => ?_⟩
  obtain ⟨ho, hk⟩ := hone_of hone j f hj
  have hjl : j < fs.size := (Array.getElem?_eq_some_iff.1 hj).1
  have hjc : j < cs.length := by rw [hcl, hC]; exact hjl
  have hjy : j < ys.length := by rw [hyl]; exact hjl
  have h1 := hf j f hj
  rw [ho, hk] at h1
  have hone' : (cs.drop j).take 1 = [cs[j]] := by
    rw [List.drop_eq_getElem_cons hjc]
    rfl
  rw [hone', List.getElem?_eq_getElem hjy] at h1
  refine ⟨cs[j], ys[j], List.getElem?_eq_getElem hjc, List.getElem?_eq_getElem hjy, h1, fun k hk => ?_⟩
  apply hwt
  simp only [DataW.weights, ht]
  exact DataW.weights_mem_each (j := j) (t := f.type) (d := ys[j].1) (by rw [List.getElem?_map, Array.getElem?_toList, hj]; rfl) (by rw [List.getElem?_map, List.getElem?_eq_getElem hjy]; rfl) k hk
theorem open_text {n : Nat} {v : Value} {y : DataW H × List MemPlace} (h : DataW.trod enc Try.prog w base spare held n 9 [v] = some y) (hw : Light 9 y.1) : ∃ s : ByteArray, v = .string s ∧ s.size ≤ 140737488355328 := by
  obtain ⟨s, e, rfl, _⟩ := DataW.trod_string Try.underlying9 h
  cases e
  refine ⟨s, rfl, ?_⟩
  have := hw s.data.toList.length (by simp [DataW.weights])
  rw [Array.length_toList] at this
  have h2 : s.size = s.data.size := rfl
  unfold reachBytes at this
  omega
theorem open_num {n : Nat} {v : Value} {y : DataW H × List MemPlace} (h : DataW.trod enc Try.prog w base spare held n 2 [v] = some y) : ∃ z : Int, v = .int .i64 z ∧ (Lit.int .i64 z).wf = true := by
  obtain ⟨z, e, _, hz⟩ := DataW.trod_int Try.underlying2 h
  cases e
  exact ⟨z, rfl, hz⟩
theorem open_truth {n : Nat} {v : Value} {y : DataW H × List MemPlace} (h : DataW.trod enc Try.prog w base spare held n 4 [v] = some y) : ∃ b : Bool, v = .bool b := by
  obtain ⟨b, e, _⟩ := DataW.trod_bool Try.underlying4 h
  cases e
  exact ⟨b, rfl⟩
theorem open_pair {n : Nat} {cs : List Value} {y : DataW H × List MemPlace} (h : DataW.trod enc Try.prog w base spare held n 60 cs = some y) (hw : Light 60 y.1) : ∃ p : Pr, kPr.K w p cs ∧ (p.n.size ≤ 140737488355328 ∧ p.v.size ≤ 140737488355328) := by
  obtain ⟨hl, ys, m, _, _, hf⟩ := open_fields Try.underlying60 (by kernel_rfl) (by kernel_rfl) h hw
  obtain ⟨v0, y0, e0, _, t0, w0⟩ := hf 0 _ rfl
  obtain ⟨v1, y1, e1, _, t1, w1⟩ := hf 1 _ rfl
  obtain ⟨a, rfl, ha⟩ := open_text t0 w0
  obtain ⟨b, rfl, hb⟩ := open_text t1 w1
  match cs, hl, e0, e1 with
  | [c0, c1], _, e0, e1 =>
    cases e0
    cases e1
    exact ⟨⟨a, b⟩, kPr_mk w ⟨a, b⟩, ha, hb⟩
def VnOk (x : Vn) : Prop := x.Fits ∧ x.pairs.length * 32 ≤ 140737488351232 ∧ (Lit.int .i64 x.seq).wf = true
theorem open_version {n : Nat} {cs : List Value} {y : DataW H × List MemPlace} (h : DataW.trod enc Try.prog w base spare held n 48 cs = some y) (hw : Light 48 y.1) : ∃ x : Vn, kVn.K w x cs ∧ VnOk x := by
  obtain ⟨hl, ys, m, _, _, hf⟩ := open_fields Try.underlying48 (by kernel_rfl) (by kernel_rfl) h hw
  obtain ⟨v0, y0, e0, _, t0, w0⟩ := hf 0 _ rfl
  obtain ⟨v1, y1, e1, _, t1, w1⟩ := hf 1 _ rfl
  obtain ⟨v2, y2, e2, _, t2, w2⟩ := hf 2 _ rfl
  obtain ⟨v3, y3, e3, _, t3, w3⟩ := hf 3 _ rfl
  obtain ⟨v4, y4, e4, _, t4, w4⟩ := hf 4 _ rfl
  obtain ⟨a, rfl, ha⟩ := open_text t0 w0
  obtain ⟨z, rfl, hz⟩ := open_num t1
  obtain ⟨g, rfl⟩ := open_truth t2
  obtain ⟨b, rfl, hb⟩ := open_text t3 w3
  obtain ⟨A, c, l, e, hc, hC, hB, hQ⟩ := open_rows kPr Try.underlying46 (by kernel_rfl) (by kernel_rfl : _ = 32) (fun p : Pr => p.n.size ≤ 140737488355328 ∧ p.v.size ≤ 140737488355328) (fun n cs' y h hw => open_pair h hw) t4 w4
  cases e
  match cs, hl, e0, e1, e2, e3, e4 with
  | [c0, c1, c2, c3, c4], _, e0, e1, e2, e3, e4 =>
    cases e0
    cases e1
    cases e2
    cases e3
    cases e4
    exact ⟨⟨a, z, g, b, l⟩, kVn_mk w ⟨a, z, g, b, l⟩ hc hC, ⟨ha, hb, hQ⟩, hB, hz⟩
def BkOk (l : List Vn) : Prop := ∀ x ∈ l, (Lit.int .i64 x.seq).wf = true
theorem open_bucket {n : Nat} {cs : List Value} {y : DataW H × List MemPlace} (h : DataW.trod enc Try.prog w base spare held n 24 cs = some y) (hw : Light 24 y.1) :
    ∃ (nx : Int) (A : Option Addr) (c : Nat) (l : List Vn), cs = [.int .i64 nx, .slice A l.length c] ∧ (Lit.int .i64 nx).wf = true ∧ l.length ≤ c ∧ kVn.C w A l.length l ∧ Room l ∧ BkOk l := by
  obtain ⟨hl, ys, m, _, _, hf⟩ := open_fields Try.underlying24 (by kernel_rfl) (by kernel_rfl) h hw
  obtain ⟨v0, y0, e0, _, t0, w0⟩ := hf 0 _ rfl
  obtain ⟨v1, y1, e1, _, t1, w1⟩ := hf 1 _ rfl
  obtain ⟨z, rfl, hz⟩ := open_num t0
  obtain ⟨A, c, l, e, hc, hC, hB, hQ⟩ := open_rows kVn Try.underlying22 (by kernel_rfl) (by kernel_rfl : _ = 72) VnOk (fun n cs' y h hw => open_version h hw) t1 w1
  cases e
  match cs, hl, e0, e1 with
  | [c0, c1], _, e0, e1 =>
    cases e0
    cases e1
    exact ⟨z, A, c, l, rfl, hz, hc, hC, ⟨hB, fun x hx => (hQ x hx).2.1, fun x hx => (hQ x hx).1⟩, fun x hx => (hQ x hx).2.2⟩
theorem light_of {ts : List TypeId} {ds : List (DataW H)} (hz : (DataW.weightsEach Try.prog ts ds).all (· ≤ reachBytes) = true) {j : Nat} {t : TypeId} {d : DataW H} (ht : ts[j]? = some t) (hd : ds[j]? = some d) : Light t d := fun n hn => by
  have := List.all_eq_true.1 hz n (DataW.weights_mem_each ht hd n hn)
  simpa using this
theorem open_bucket_arg {r : Reach} {b0 : Nat} {v : Value} {d : DataW H} {p : List MemPlace} (hv : Value.okWide Try.prog w r b0 24 v) (h : DataW.Trod enc Try.prog w base spare held 24 v d p) (hw : Light 24 d) :
    ∃ (nx : Int) (A : Option Addr) (c : Nat) (l : List Vn), v = .agg #[.int .i64 nx, .slice A l.length c] ∧ (Lit.int .i64 nx).wf = true ∧ l.length ≤ c ∧ kVn.C w A l.length l ∧ Room l ∧ BkOk l := by
  obtain ⟨cs, rfl, hsz⟩ := okWide_struct Try.underlying24 hv
  obtain ⟨fuel, hf⟩ := h
  obtain ⟨nx, A, c, l, e, r⟩ := open_bucket hf hw
  obtain ⟨cs⟩ := cs
  have e2 : cs = [.int .i64 nx, .slice A l.length c] := e
  subst e2
  exact ⟨nx, A, c, l, rfl, r⟩
theorem open_delta_arg {r : Reach} {b0 : Nat} {v : Value} {d : DataW H} {p : List MemPlace} (hv : Value.okWide Try.prog w r b0 27 v) (h : DataW.Trod enc Try.prog w base spare held 27 v d p) (hw : Light 27 d) :
    ∃ (s nx : Int) (A : Option Addr) (c : Nat) (l : List Vn), v = .agg #[.int .i64 s, .int .i64 nx, .slice A l.length c] ∧ (Lit.int .i64 s).wf = true ∧ (Lit.int .i64 nx).wf = true ∧ l.length ≤ c ∧ kVn.C w A l.length l ∧ Room l ∧ BkOk l := by
  obtain ⟨cs, rfl, hsz⟩ := okWide_struct Try.underlying27 hv
  obtain ⟨fuel, hf⟩ := h
  obtain ⟨cs⟩ := cs
  have hC3 : Try.prog.cellsOf 27 = 3 := by kernel_rfl
  match cs, hsz.trans hC3 with
  | [c0, c1, c2], _ =>
    obtain ⟨ys, n, _, hx, _, hlen, hg⟩ := DataW.trod_struct Try.underlying27 hf
    have k0 : Try.prog.cellsOf 2 = 1 := by kernel_rfl
    have k1 : Try.prog.cellsOf 24 = 2 := by kernel_rfl
    match ys, hlen with
    | [y0, y1], _ =>
      simp only [Prod.mk.injEq] at hx
      obtain ⟨rfl, _⟩ := hx
      have g0 : DataW.trod enc Try.prog w base spare held n 2 [c0] = some y0 := by simpa [Value.cells, k0] using hg 0 _ rfl
      have g1 : DataW.trod enc Try.prog w base spare held n 24 [c1, c2] = some y1 := by simpa [Value.cells, k1] using hg 1 _ rfl
      have hw1 : Light 24 y1.1 := fun k hk => by
        apply hw
        simp only [DataW.weights, Try.underlying27]
        exact DataW.weights_mem_each (j := 1) (t := 24) (d := y1.1) rfl rfl k hk
      obtain ⟨s, rfl, hs⟩ := open_num g0
      obtain ⟨nx, A, c, l, e, r⟩ := open_bucket g1 hw1
      cases e
      exact ⟨s, nx, A, c, l, rfl, hs, r⟩
end
end Go.Proofs.Ytbhdehkdnenigaa

set_option linter.unusedVariables false
set_option linter.unusedSimpArgs false
namespace Go.Proofs.Ytbhdehkdnenigaa
open Go.RowKit Go.ChangeShapes Go.WideShapes Go.Deep
section
variable {H : Type} {enc : TypeId × Value → H} {w : World} {base : Nat} {spare : Nat → Bool} {held : Bool}
theorem bulk_one (d : DataW H) : 1 ≤ Rows.uptoBulk d := by
  cases d with
  | lit l => cases l <;> simp [Rows.uptoBulk]
  | nil => simp [Rows.uptoBulk]
  | ptr d => simp [Rows.uptoBulk]
  | slice elems spare => simp [Rows.uptoBulk]
  | agg parts => simp [Rows.uptoBulk]
  | iface t d => simp [Rows.uptoBulk]
  | map entries => simp [Rows.uptoBulk]
  | held h => simp [Rows.uptoBulk]
theorem bulk_len (l : List (DataW H)) : l.length ≤ Rows.uptoBulkAll l := by
  induction l with
  | nil => simp [Rows.uptoBulkAll]
  | cons x r ih => have := bulk_one x; simp only [Rows.uptoBulkAll, List.length_cons]; omega
theorem slice_bulk {t e : TypeId} {fuel : Nat} {A : Option Addr} {n c : Nat} {x : DataW H × List MemPlace} (ht : Try.prog.underlying t = some (.slice e)) (h : DataW.trod enc Try.prog w base spare held fuel t [.slice A n c] = some x) : n ≤ Rows.uptoBulk x.1 := by
  rcases open_slice ht h with ⟨hcs, _⟩ | ⟨a, len, cap, m, k, D, Pl, hcs, hb, hl, hm, hmm, hx, hi⟩
  · simp only [List.cons.injEq, Value.slice.injEq] at hcs
    omega
  · simp only [List.cons.injEq, Value.slice.injEq] at hcs
    subst hx
    have := bulk_len ((List.range len).map D)
    rw [List.length_map, List.length_range] at this
    simp only [Rows.uptoBulk]
    omega
theorem bucket_bulk {n : Nat} {nx : Int} {A : Option Addr} {m c : Nat} {y : DataW H × List MemPlace} (h : DataW.trod enc Try.prog w base spare held n 24 [.int .i64 nx, .slice A m c] = some y) : m ≤ Rows.uptoBulk y.1 := by
  obtain ⟨ys, k, _, hx, _, hlen, hg⟩ := DataW.trod_struct Try.underlying24 h
  have k0 : Try.prog.cellsOf 2 = 1 := by kernel_rfl
  have k1 : Try.prog.cellsOf 22 = 1 := by kernel_rfl
  match ys, hlen with
  | [y0, y1], _ =>
    subst hx
    have g1 : DataW.trod enc Try.prog w base spare held k 22 [.slice A m c] = some y1 := by simpa [Value.cells, k0, k1] using hg 1 _ rfl
    have h1 := slice_bulk Try.underlying22 g1
    simp only [Rows.uptoBulk, Rows.uptoBulkAll, List.map_cons, List.map_nil]
    omega
theorem bucket_arg_bulk {nx : Int} {A : Option Addr} {m c : Nat} {d : DataW H} {p : List MemPlace} (h : DataW.Trod enc Try.prog w base spare held 24 (.agg #[.int .i64 nx, .slice A m c]) d p) : m ≤ Rows.uptoBulk d := by
  obtain ⟨fuel, hf⟩ := h
  exact bucket_bulk (y := (d, p)) hf
theorem delta_arg_bulk {s nx : Int} {A : Option Addr} {m c : Nat} {d : DataW H} {p : List MemPlace} (h : DataW.Trod enc Try.prog w base spare held 27 (.agg #[.int .i64 s, .int .i64 nx, .slice A m c]) d p) : m ≤ Rows.uptoBulk d := by
  obtain ⟨fuel, hf⟩ := h
  obtain ⟨ys, k, _, hx, _, hlen, hg⟩ := DataW.trod_struct Try.underlying27 hf
  have k0 : Try.prog.cellsOf 2 = 1 := by kernel_rfl
  have k1 : Try.prog.cellsOf 24 = 2 := by kernel_rfl
  match ys, hlen with
  | [y0, y1], _ =>
    simp only [Prod.mk.injEq] at hx
    obtain ⟨rfl, _⟩ := hx
    have g1 : DataW.trod enc Try.prog w base spare held k 24 [.int .i64 nx, .slice A m c] = some y1 := by simpa [Value.cells, k0, k1] using hg 1 _ rfl
    have h1 := bucket_bulk g1
    simp only [Rows.uptoBulk, Rows.uptoBulkAll, List.map_cons, List.map_nil]
    omega
end
end Go.Proofs.Ytbhdehkdnenigaa

namespace Go.Proofs.Ytbhdehkdnenigaa.lawDeltaApplies
open Go.ChangeShapes Go.WideShapes Go.ChangeAt Go.RowKit
set_option linter.unusedVariables false
set_option linter.unusedSimpArgs false
theorem contract (H : Type) (enc : TypeId × Value → H) (W : World) (base : Nat) (args : Array Value) (ds gs : List (DataW H)) (before : List MemPlace)
    (hval : ∀ (j : Nat) t v, Try.f4.params[j]? = some t → args[j]? = some v → Value.okWide Try.prog W .any base t v)
    (hW : DataW.Whole enc Try.prog Try.f4.params.toList Rows.deltaAppliesSpec.vars false W args.toList ds gs before)
    (hz : (DataW.weightsEach Try.prog (Try.f4.params.toList ++ ([] : List TypeId)) (ds ++ gs)).all (· ≤ reachBytes) = true) (hk : Rows.uptoSmall H (ds ++ gs) = true) :
    Calls Try.prog 4 args W fun e W' => ∃ v, e = .returned v ∧ Rows.deltaAppliesSpec.post enc Try.prog Try.f4 false true false false W args v W' := by
  have hW' := hW
  obtain ⟨p, q, hA0, hV, rfl, hfz, hnd⟩ := hW
  have hA : DataW.TrodAll enc Try.prog W 0 (fun _ => true) true Try.f4.params.toList args.toList ds p := hA0
  rw [Try.params4] at hA hval hz
  obtain ⟨v0, vs0, d0, ds0, p0, q0, hargs, rfl, rfl, h0, r0⟩ := trodAll_cons hA
  obtain ⟨v1, vs1, d1, ds1, p1, q1, rfl, rfl, rfl, h1, r1⟩ := trodAll_cons r0
  obtain ⟨rfl, rfl, rfl⟩ := trodAll_nil r1
  obtain rfl : args = #[v0, v1] := by cases args; simp_all
  obtain ⟨rfl, rfl⟩ := trodVars_none hV
  obtain ⟨n0, A0, c0, l0, rfl, w0, hl0, hC0, R0, B0⟩ := open_bucket_arg (hval 0 24 v0 rfl rfl) h0 (light_of hz (j := 0) rfl rfl)
  obtain ⟨s1, n1, A1, c1, l1, rfl, w1, u1, hl1, hC1, R1, B1⟩ := open_delta_arg (hval 1 27 v1 rfl rfl) h1 (light_of hz (j := 1) rfl rfl)
  have hk2 : Rows.uptoBulkAll [d0, d1] ≤ 1048576 := of_decide_eq_true hk
  simp only [Rows.uptoBulkAll] at hk2
  have z0 : l0.length ≤ 1048576 := by have := bucket_arg_bulk h0; omega
  have z1 : l1.length ≤ 1048576 := by have := delta_arg_bulk h1; omega
  clear hA0
  have hc : Calls Try.prog 4 #[.agg #[.int .i64 n0, .slice A0 l0.length c0], .agg #[.int .i64 s1, .int .i64 n1, .slice A1 l1.length c1]] W fun e W' => e = .returned (.bool true) ∧ Below W.heap.size W W' := applies_any l0 l1 n0 s1 n1 A0 A1 c0 c1 W hC0 hl0 R0 hC1 hl1 R1 (by omega)
  exact hc.mono fun e W' ⟨he, hb⟩ => ⟨_, he, law_post rfl (by rw [Try.params4]; decide +kernel) (tb := 4) (by kernel_rfl) Try.underlying4 ⟨rfl, rfl, rfl⟩ hW' hb⟩
set_option maxRecDepth 100000 in
theorem lifted (os : Os) (started : os.Started) (H : Type) (enc : TypeId × Value → H) (F : Stop.Interp) :
    ReturnsInHanded {} Try.checked os 4 .any ((Rows.OpenSpec.upto Rows.deltaAppliesSpec).pre6 enc Try.prog Try.f4 Rows.deltaAppliesUptoRow.domain false) (((Rows.OpenSpec.upto Rows.deltaAppliesSpec).at F).post enc Try.prog Try.f4 false true false false) := by
  refine returnsInHanded_of_cond_sized (C := Try.checked) (s := Rows.OpenSpec.upto Rows.deltaAppliesSpec) (k := Rows.uptoSmall) rfl own started (by kernel_rfl) Try.func4
    (OpenSpec.witness (enc := enc) (C := Try.checked) (s := Rows.OpenSpec.upto Rows.deltaAppliesSpec) (k := Rows.uptoSmall) rfl false ⟨#[], #[.agg #[.int .i64 0, .slice none 0 0], .agg #[.int .i64 0, .int .i64 0, .slice none 0 0]], []⟩ 8 (by kernel_rfl) (by kernel_rfl) (by kernel_rfl)
      (x := ([.agg [.lit (.int .i64 0), .nil], .agg [.lit (.int .i64 0), .agg [.lit (.int .i64 0), .nil]]], [], [])) (by kernel_rfl) rfl (by kernel_rfl)) ?_
  intro W base args ds gs before hval hW _ hk hsz _
  exact contract H enc W base args ds gs before hval hW hsz hk
theorem proved : Rows.DeltaAppliesUptoSaid :=
  OpenClaim.holds_of_cond 4 Try.f4 rfl rfl rfl rfl rfl rfl rfl ⟨rfl, rfl, rfl, rfl, rfl⟩ rfl rfl rfl rfl rfl (by kernel_rfl) Try.func4 (by kernel_rfl)
    (of_decide_eq_true (by kernel_rfl)) (by unfold Func.isWrapper; first | (rw [if_pos (by decide +kernel)]; kernel_rfl) | (rw [if_neg (by decide +kernel)]; exact ⟨rfl, rfl⟩))
    (fun os started H enc _ F => lifted os started H enc F)
end Go.Proofs.Ytbhdehkdnenigaa.lawDeltaApplies

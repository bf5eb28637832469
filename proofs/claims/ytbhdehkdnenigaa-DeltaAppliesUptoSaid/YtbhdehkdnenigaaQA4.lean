/- Walk: delta.merged: two sorted lists as one.
Walk: delta.Apply.
The machine side of some functions of the law, as the kit's print wrote it for this claim: each function has the answers of a plain one.
Walks: the law's example, and its first line: the document's examples in short: it answers true.
Walk: the law's first line answers true.
Faces: the functions of the law DeltaApplies that were walked by hand, told in the words that the kit's print uses for its own functions (rows that are not told apart). -/
import Derived.Test.YtbhdehkdnenigaaQA3
set_option linter.unusedVariables false
set_option linter.unusedSimpArgs false
namespace Go.Proofs.Ytbhdehkdnenigaa
open Go.RowKit Go.Proofs.YtbhdehkdnenigaaW.PrintWords Go.Proofs.YtbhdehkdnenigaaW.PrintLast
attribute [local go_sem] Vn.val

def mG.T3 : Bool × List (List Nat × List Nat) := (true, [([], []), ([], []), ([1], [1]), ([2], [2]), ([], []), ([4], [4]), ([5], [5]), ([0, 3, 6], [0, 3, 6]), ([7], [7])])
def mG.B3 : List Nat := [0, 0, 2, 6, 0, 16, 48, 127, 255]
theorem mG.tab3 : rtab .any (opsOf Try.f36 3) = mG.T3 := by kernel_rfl
theorem mG.bits3 : waitsOk mG.T3.2 mG.B3 = true := by kernel_rfl
def mG.T4 : Bool × List (List Nat × List Nat) := (true, [([], []), ([], []), ([1], [1]), ([2], [2]), ([3], [3]), ([0, 4], [0, 4]), ([], []), ([6], [6]), ([5, 5, 0, 1, 2, 3, 4, 5], [0, 5]), ([7, 8, 0, 1, 2, 3, 4, 5, 6, 7, 8], [1, 6, 7])])
def mG.B4 : List Nat := [0, 0, 2, 6, 14, 31, 0, 64, 63, 511]
theorem mG.tab4 : rtab .any (opsOf Try.f36 4) = mG.T4 := by kernel_rfl
theorem mG.bits4 : waitsOk mG.T4.2 mG.B4 = true := by kernel_rfl
def mG.T5 : Bool × List (List Nat × List Nat) := (true, [([], []), ([], []), ([1], [1]), ([2], [2]), ([3], [3]), ([0, 4], [0, 4]), ([], []), ([6], [6]), ([5, 5, 0, 1, 2, 3, 4, 5], [0, 5]), ([7, 8, 0, 1, 2, 3, 4, 5, 6, 7, 8], [1, 6, 7])])
def mG.B5 : List Nat := [0, 0, 2, 6, 14, 31, 0, 64, 63, 511]
theorem mG.tab5 : rtab .any (opsOf Try.f36 5) = mG.T5 := by kernel_rfl
theorem mG.bits5 : waitsOk mG.T5.2 mG.B5 = true := by kernel_rfl
theorem goesv_ {P : Program} {ops : Array Oper} {Q : Exit → Act → World → Prop} {oi : Oper} {N : Option Tmp} {a : Act} {w : World} {K : Act → World → Prop} {f : FuncId} {fn : Func} {t : Operand} {os : Array Operand} {ts : Array TypeId} (hf : P.funcs[f]? = some fn) (hname : (fn.name == "runtime.NumGoroutine") = false) (hb : fn.body.isSome = true) (args : Array Value)
  (hw : Region.wanted oi (yielded ops a.tmps) = true) (hN : oi.dst = N) (hop : oi.op = .call { callee := .value t, args := os, argTypes := ts }) (ht : a.eval t = .func (.func f) #[] #[]) (hargs : os.map a.eval = args)
  (h : Calls P f args w fun e w' => ∃ v, e = .returned v ∧ K (a.put N v) w') : if Region.wanted oi (yielded ops a.tmps) = true then Oper.wp P oi a w K Q else K (a.put N undef) w := by
 refine call_ f args hw hN ?_ h
 have he := enters_ hf hname hb args w
 have hargs2 : os.map (fun x => a.eval x) = args := hargs
 unfold execOp
 simp [hop, resolve, Deferred.ofValue, invoke, hargs, hargs2, he, ht]
/-- a row whose elements were made: what stands inside it are rows of the call's own, in elder blocks -/
def Made (w : World) (b0 : Nat) (top : Nat) (A : Option Addr) (xs : List Vn) : Prop := ReadsRow (kVn.M w b0 (fun k => k < top)) 5 w A xs.length xs ∧ (0 < xs.length → ∀ ad, A = some ad → ad.block < top)
theorem Made.first {w : World} {b0 top : Nat} {A : Option Addr} {xs : List Vn} (h : Made w b0 top A xs) (hn : 0 < xs.length) :
  ∃ ad A4 c4, A = some ad ∧ w.cell? ad = some (.string (rdV xs 0).key) ∧ w.cell? ⟨ad.block, ad.off + 1, none⟩ = some (.int .i64 (rdV xs 0).seq) ∧ w.cell? ⟨ad.block, ad.off + 2, none⟩ = some (.bool (rdV xs 0).gone) ∧ w.cell? ⟨ad.block, ad.off + 3, none⟩ = some (.string (rdV xs 0).data) ∧ w.cell? ⟨ad.block, ad.off + 4, none⟩ = some (.slice A4 (rdV xs 0).pairs.length c4) ∧
   kVn.M w b0 (fun k => k < top) (rdV xs 0) [.string (rdV xs 0).key, .int .i64 (rdV xs 0).seq, .bool (rdV xs 0).gone, .string (rdV xs 0).data, .slice A4 (rdV xs 0).pairs.length c4] := by
 obtain ⟨ad, rfl, hc⟩ := h.1.2.2 hn
 obtain ⟨cs, h1, h2, h3⟩ := hc 0 _ (List.getElem?_eq_getElem hn)
 rw [rdV_at hn] at h2
 obtain ⟨v, rfl, hv⟩ := kVn_openM h2
 obtain ⟨A4, c4, rfl⟩ := Kd.R_slice hv
 have e0 : ad.add (0 * 5) = ad := by simp [Addr.add]
 have g0 : w.cell? (ad.add (0 * 5)) = some (.string (rdV xs 0).key) := h3 0 _ rfl
 have g1 : w.cell? ⟨(ad.add (0 * 5)).block, (ad.add (0 * 5)).off + 1, none⟩ = some (.int .i64 (rdV xs 0).seq) := by rw [← add_field _ _ 1 (by omega)]; exact h3 1 _ rfl
 have g2 : w.cell? ⟨(ad.add (0 * 5)).block, (ad.add (0 * 5)).off + 2, none⟩ = some (.bool (rdV xs 0).gone) := by rw [← add_field _ _ 2 (by omega)]; exact h3 2 _ rfl
 have g3 : w.cell? ⟨(ad.add (0 * 5)).block, (ad.add (0 * 5)).off + 3, none⟩ = some (.string (rdV xs 0).data) := by rw [← add_field _ _ 3 (by omega)]; exact h3 3 _ rfl
 have g4 : w.cell? ⟨(ad.add (0 * 5)).block, (ad.add (0 * 5)).off + 4, none⟩ = some (.slice A4 (rdV xs 0).pairs.length c4) := by rw [← add_field _ _ 4 (by omega)]; exact h3 4 _ rfl
 rw [e0] at g0 g1 g2 g3 g4
 exact ⟨ad, A4, c4, rfl, g0, g1, g2, g3, g4, h2⟩
theorem Made.below {w w1 : World} {b0 top : Nat} {A : Option Addr} {xs : List Vn} (h : Made w b0 top A xs) (hb : Below top w w1) : Made w1 b0 top A xs := by
 refine ⟨⟨h.1.1, h.1.2.1, fun hn => ?_⟩, h.2⟩
 obtain ⟨ad, e, hc⟩ := h.1.2.2 hn
 refine ⟨ad, e, fun j p hj => ?_⟩
 obtain ⟨cs, h1, h2, h3⟩ := hc j p hj
 exact ⟨cs, h1, kVn.M_move (fun k hk => hb.block k hk) h2, fun i u hu => (hb.cell (by rw [add_block]; exact h.2 hn ad e)).trans (h3 i u hu)⟩
theorem made_of {w : World} {b0 : Nat} {ok : Nat → Prop} {v : Value} {xs : List Vn} (h : kVn.R 48 w b0 ok v xs) : ∃ A c, v = .slice A xs.length c ∧ xs.length ≤ c ∧ Made w b0 w.heap.size A xs := by
 obtain ⟨A, c, e, hl, hr⟩ := OwnRow.reads (Kd.R_bound h).2
 have hr2 : ReadsRow (kVn.M w b0 (fun k => k < w.heap.size)) 5 w A xs.length xs := hr.imp_ (Below.refl _ _) (fun _ _ hp => kVn.M_mono (fun k hk => hk.1.2.2.1) hp)
 refine ⟨A, c, e, hl, hr2, fun hn a ha => ?_⟩
 subst ha
 obtain ⟨ad, e2, hc⟩ := hr2.2.2 hn
 cases e2
 obtain ⟨cs, h1, h2, h3⟩ := hc 0 _ (List.getElem?_eq_getElem hn)
 obtain ⟨u, hu⟩ : ∃ u, cs[0]? = some u := ⟨cs[0], List.getElem?_eq_getElem (by omega)⟩
 have := World.block_lt_of_cell? w _ (h3 0 u hu)
 rwa [add_block] at this
theorem Made.drop {w : World} {b0 top : Nat} {A : Option Addr} {xs : List Vn} {c m : Nat} (h : Made w b0 top A xs) (hm : m ≤ xs.length) (hc : xs.length ≤ c) : Made w b0 top (if c = m then A else A.map (·.add (m * 5))) (xs.drop m) := by
 have hl : (xs.drop m).length = xs.length - m := List.length_drop
 refine ⟨⟨rfl, by rw [hl]; have := h.1.2.1; omega, fun hp => ?_⟩, fun hp a ha => ?_⟩
 case refine_2 =>
  rw [hl] at hp
  rw [if_neg (by omega)] at ha
  obtain ⟨ad, rfl, hcell⟩ := h.1.2.2 (by omega)
  cases ha
  rw [add_block]
  exact h.2 (by omega) ad rfl
 rw [hl] at hp
 obtain ⟨ad, rfl, hcell⟩ := h.1.2.2 (by omega)
 rw [if_neg (by omega)]
 refine ⟨ad.add (m * 5), rfl, fun j p hj => ?_⟩
 rw [List.getElem?_drop] at hj
 obtain ⟨cs, h1, h2, h3⟩ := hcell (m + j) p hj
 refine ⟨cs, h1, h2, fun i u hu => ?_⟩
 rw [add_add, show m * 5 + (j * 5 + i) = (m + j) * 5 + i by omega]
 exact h3 i u hu
theorem Made.tail {w : World} {b0 top : Nat} {A : Option Addr} {xs : List Vn} {c : Nat} (h : Made w b0 top A xs) (hn : 0 < xs.length) (hc : xs.length ≤ c) :
  ∃ A', (∀ W : World, (Instr.slice 22 (.slice A xs.length c) (some (.int .i64 1)) none none).run Try.prog W = .ok (.slice A' (xs.drop 1).length (c - 1)) W) ∧ Made w b0 top A' (xs.drop 1) := by
 obtain ⟨i0, hi, hz⟩ := Option.map_eq_some_iff.1 vn_info
 simp only [Prod.mk.injEq] at hz
 refine ⟨_, fun W => ?_, h.drop (m := 1) (by omega) hc⟩
 rw [cut_from 22 48 .i64 Try.underlying22 hi 5 hz.2.1 A xs.length c 1 (by decide) (by omega) W, List.length_drop]
 rfl
def mrg : List Vn → List Vn → List Vn
 | [], m => m
 | l, [] => l
 | x :: l, y :: m => if ordE y x < 0 then y :: mrg (x :: l) m else x :: mrg l (y :: m)
termination_by l m => l.length + m.length
theorem mrg_end {l m : List Vn} (h : l.length = 0 ∨ m.length = 0) : mrg l m = l ++ m := by
 rcases h with h | h
 ·
  obtain rfl := List.eq_nil_of_length_eq_zero h
  simp [mrg]
 ·
  obtain rfl := List.eq_nil_of_length_eq_zero h
  cases l <;> simp [mrg]
theorem cons_rd {l : List Vn} (h : 0 < l.length) : l = rdV l 0 :: l.drop 1 := by
 cases l with
 | nil => simp at h
 | cons x r => simp [rdV]
theorem mrg_y {l m : List Vn} (h1 : 0 < l.length) (h2 : 0 < m.length) (h : ordE (rdV m 0) (rdV l 0) < 0) : mrg l m = rdV m 0 :: mrg l (m.drop 1) := by
 obtain ⟨x, l, rfl⟩ : ∃ x r, l = x :: r := ⟨_, _, cons_rd h1⟩
 obtain ⟨y, m, rfl⟩ : ∃ x r, m = x :: r := ⟨_, _, cons_rd h2⟩
 rw [mrg]
 exact if_pos h
theorem mrg_x {l m : List Vn} (h1 : 0 < l.length) (h2 : 0 < m.length) (h : ¬ ordE (rdV m 0) (rdV l 0) < 0) : mrg l m = rdV l 0 :: mrg (l.drop 1) m := by
 obtain ⟨x, l, rfl⟩ : ∃ x r, l = x :: r := ⟨_, _, cons_rd h1⟩
 obtain ⟨y, m, rfl⟩ : ∃ x r, m = x :: r := ⟨_, _, cons_rd h2⟩
 rw [mrg]
 exact if_neg h
theorem own_after {v v1 : Value} {n top : Nat} (h : v1.ownBlock = v.ownBlock ∨ ∃ b, v1.ownBlock = some b ∧ n ≤ b) (hv : ∀ k, v.ownBlock = some k → top ≤ k) (hn : top ≤ n) : ∀ k, v1.ownBlock = some k → top ≤ k := fun k hk => by
 rcases h with h | ⟨b, h, hlt⟩
 ·
  exact hv k (h.symm.trans hk)
 ·
  have := Option.some.inj (h.symm.trans hk)
  omega
def slen : Value → Nat
 | .slice _ n _ => n
 | _ => 0
set_option maxRecDepth 100000 in
set_option maxHeartbeats 4000000 in
theorem merged_any (l m : List Vn) (A B : Option Addr) (c d b0 : Nat) (w : World) (hb0 : b0 ≤ w.heap.size) (HA : Made w b0 w.heap.size A l) (HB : Made w b0 w.heap.size B m) (hl : l.length ≤ c) (hm : m.length ≤ d) (hsz : (l.length + m.length) * 72 ≤ 140737488355328) :
  Calls Try.prog 36 #[.slice A l.length c, .slice B m.length d, .func (.func 37) #[] #[]] w fun e w' => ∃ v, e = .returned v ∧ kVn.R 48 w' b0 (fun _ => True) v (mrg l m) ∧ (∀ k, v.ownBlock = some k → w.heap.size ≤ k) ∧ Below w.heap.size w w' := by
 have h1 := Lib.hid HA
 have h2 := Lib.hid HB
 clear HA HB
 go_enter Try.func36, Try.ntmps36
 go_wp2
 go_loopw [0, 1, 7] (fun av bv ov wr => ∃ (l' m' o : List Vn) (A' B' : Option Addr) (c' d' : Nat), av = .slice A' l'.length c' ∧ bv = .slice B' m'.length d' ∧ l'.length ≤ c' ∧ m'.length ≤ d' ∧ Hid (Made wr b0 w.heap.size A' l') ∧ Hid (Made wr b0 w.heap.size B' m') ∧ Hid (kVn.R 48 wr b0 (fun _ => True) ov o) ∧ Hid (∀ k, ov.ownBlock = some k → w.heap.size ≤ k) ∧ Hid (mrg l m = o ++ mrg l' m') ∧ o.length + l'.length + m'.length = l.length + m.length ∧ Below w.heap.size w wr) (fun av bv _ _ => slen av + slen bv)
 case atStart => exact ⟨l, m, [], A, B, c, d, rfl, rfl, hl, hm, h1, h2, Kd.R_nil _ _ _ _ _, (fun k hk => by simp [Value.ownBlock] at hk), (by show mrg l m = [] ++ mrg l m; rfl), by simp, Below.refl _ _⟩
 case round =>
  obtain ⟨l', m', o, A', B', c', d', rfl, rfl, hl', hm', HA, HB, HO, HW, HM, hlen, hbw⟩ := hrel
  by_cases q1 : 0 < l'.length
  ·
   by_cases q2 : 0 < m'.length
   ·
    have t1 : decide (0 < l'.length) = true := decide_eq_true q1
    have t2 : decide (0 < m'.length) = true := decide_eq_true q2
    have t3 : decide ((0 : Int) < (l'.length : Int)) = true := decide_eq_true (by omega)
    have t4 : decide ((0 : Int) < (m'.length : Int)) = true := decide_eq_true (by omega)
    obtain ⟨A'', ctA, HA2⟩ := HA.out.tail q1 hl'
    obtain ⟨B'', ctB, HB2⟩ := HB.out.tail q2 hm'
    obtain ⟨ad, A4, c4, rfl, x0, x1, x2, x3, x4, xM⟩ := HA.out.first q1
    obtain ⟨bd, B4, d4, rfl, y0, y1, y2, y3, y4, yM⟩ := HB.out.first q2
    have HY0 := fun h => Lib.hid (mrg_y q1 q2 h)
    have HX0 := fun h => Lib.hid (mrg_x q1 q2 h)
    generalize rdV l' 0 = x at *
    generalize rdV m' 0 = y at *
    have HA3 := Lib.hid HA2
    have HB3 := Lib.hid HB2
    have XM := Lib.hid xM
    have YM := Lib.hid yM
    have hda : (l'.drop 1).length = l'.length - 1 := List.length_drop
    have hdb : (m'.drop 1).length = m'.length - 1 := List.length_drop
    have hb0w : b0 ≤ wr.heap.size := Nat.le_trans hb0 hbw.size
    have HS := fun w' => Lib.hid (order_any y x B4 A4 d4 c4 w')
    clear xM yM HA2 HB2
    by_cases q : ordE y x < 0
    ·
     have t5 : decide (ordE y x < 0) = true := decide_eq_true q
     have HM1 := HY0 q
     clear HY0 HX0
     go_wp2
     refine start_ (n := 9) (S := fun w' => w'.cell? ad = some (.string x.key) ∧ w'.cell? ⟨ad.block, ad.off + 1, none⟩ = some (.int .i64 x.seq) ∧ w'.cell? ⟨ad.block, ad.off + 2, none⟩ = some (.bool x.gone) ∧ w'.cell? ⟨ad.block, ad.off + 3, none⟩ = some (.string x.data) ∧ w'.cell? ⟨ad.block, ad.off + 4, none⟩ = some (.slice A4 x.pairs.length c4) ∧ w'.cell? bd = some (.string y.key) ∧ w'.cell? ⟨bd.block, bd.off + 1, none⟩ = some (.int .i64 y.seq) ∧ w'.cell? ⟨bd.block, bd.off + 2, none⟩ = some (.bool y.gone) ∧ w'.cell? ⟨bd.block, bd.off + 3, none⟩ = some (.string y.data) ∧ w'.cell? ⟨bd.block, bd.off + 4, none⟩ = some (.slice B4 y.pairs.length d4)) (ds := []) #[false, false, false, false, false, false, false, false, false] (by kernel_rfl) rfl rfl ⟨x0, x1, x2, x3, x4, y0, y1, y2, y3, y4⟩ (fun hHeld => ?_)
     refine with_tabW mG.tab3 mG.bits3 (fun HT_ HW_ => ?_)
     refine pure_ (i := 0) (N := some 16) (v := ?_) (a' := ?_) #[true, false, false, false, false, false, false, false, false] rfl rfl (any_of HT_.out (by kernel_rfl)) (fun _ _ _ h => h) (Or.inl ⟨by rfl, ?_⟩) ?_ ?_
     rotate_left
     ·
      intro w'
      go_simp
      with_reducible rfl
     rotate_left
     ·
      simp only [Act.put, List.setIfInBounds_toArray, List.set_cons_zero, List.set_cons_succ, i64_w, i32_w]
      rfl
     refine pure_ (i := 1) (N := some 17) (v := ?_) (a' := ?_) #[true, true, false, false, false, false, false, false, false] rfl rfl (any_of HT_.out (by kernel_rfl)) (fun _ _ _ h => h) (Or.inl ⟨by rfl, ?_⟩) ?_ ?_
     rotate_left
     ·
      intro w'
      go_simp
      with_reducible rfl
     rotate_left
     ·
      simp only [Act.put, List.setIfInBounds_toArray, List.set_cons_zero, List.set_cons_succ, i64_w, i32_w]
      rfl
     refine pure_ (i := 2) (N := some 18) (v := ?_) (a' := ?_) #[true, true, true, false, false, false, false, false, false] rfl rfl (any_of HT_.out (by kernel_rfl)) (fun _ _ _ h => h) (Or.inl ⟨by rfl, ?_⟩) ?_ ?_
     rotate_left
     ·
      intro w'
      go_simp
      with_reducible rfl
     rotate_left
     ·
      simp only [Act.put, List.setIfInBounds_toArray, List.set_cons_zero, List.set_cons_succ, i64_w, i32_w]
      rfl
     refine pure_ (i := 4) (N := some 20) (v := ?_) (a' := ?_) #[true, true, true, false, true, false, false, false, false] rfl rfl (any_of HT_.out (by kernel_rfl)) (fun _ _ _ h => h) (Or.inl ⟨by rfl, ?_⟩) ?_ ?_
     rotate_left
     ·
      intro w'
      go_simp
      with_reducible rfl
     rotate_left
     ·
      simp only [Act.put, List.setIfInBounds_toArray, List.set_cons_zero, List.set_cons_succ, i64_w, i32_w]
      rfl
     refine pure_ (i := 5) (N := some 21) (v := ?_) (a' := ?_) #[true, true, true, false, true, true, false, false, false] rfl rfl (any_of HT_.out (by kernel_rfl)) (fun _ _ _ h => h) (Or.inl ⟨by rfl, ?_⟩) ?_ ?_
     rotate_left
     ·
      intro w'
      go_simp
      with_reducible rfl
     rotate_left
     ·
      simp only [Act.put, List.setIfInBounds_toArray, List.set_cons_zero, List.set_cons_succ, i64_w, i32_w]
      rfl
     refine take_ (i := 3) (N := some 19) (v := ?_) (a' := ?_) #[true, true, true, true, true, true, false, false, false] rfl rfl (take_ofW HT_.out HW_.out (by kernel_rfl)) (fun _ _ _ h => h) (Or.inl ⟨by rfl, ?_⟩) hHeld ?_ ?_
     rotate_left
     ·
      rintro w' ⟨s0, s1, s2, s3, s4, s5, s6, s7, s8, s9⟩
      go_simp
      with_reducible rfl
     rotate_left
     ·
      simp only [Act.put, List.setIfInBounds_toArray, List.set_cons_zero, List.set_cons_succ, i64_w, i32_w]
      rfl
     refine take_ (i := 6) (N := some 22) (v := ?_) (a' := ?_) #[true, true, true, true, true, true, true, false, false] rfl rfl (take_ofW HT_.out HW_.out (by kernel_rfl)) (fun _ _ _ h => h) (Or.inl ⟨by rfl, ?_⟩) hHeld ?_ ?_
     rotate_left
     ·
      rintro w' ⟨s0, s1, s2, s3, s4, s5, s6, s7, s8, s9⟩
      go_simp
      with_reducible rfl
     rotate_left
     ·
      simp only [Act.put, List.setIfInBounds_toArray, List.set_cons_zero, List.set_cons_succ, i64_w, i32_w]
      rfl
     refine one_ (i := 7) (N := some 23) #[true, true, true, true, true, true, true, true, false] rfl rfl (one_of HT_.out (by kernel_rfl)) (by decide) (fun K hK => ?_)
     refine goesv_ Try.func37 (by kernel_rfl) rfl #[y.val B4 d4, x.val A4 c4] (by rfl) rfl rfl rfl (by simp only [List.map_toArray, List.map_cons, List.map_nil]; rfl) ?_
     with_reducible refine (HS _).out.mono ?_
     rintro e w3 ⟨rfl, hb⟩
     have hb3 := hb
     refine ⟨_, rfl, ?_⟩
     refine hK.out _ _ ⟨pw_cell_below hb (hHeld.1), pw_cell_below hb (hHeld.2.1), pw_cell_below hb (hHeld.2.2.1), pw_cell_below hb (hHeld.2.2.2.1), pw_cell_below hb (hHeld.2.2.2.2.1), pw_cell_below hb (hHeld.2.2.2.2.2.1), pw_cell_below hb (hHeld.2.2.2.2.2.2.1), pw_cell_below hb (hHeld.2.2.2.2.2.2.2.1), pw_cell_below hb (hHeld.2.2.2.2.2.2.2.2.1), pw_cell_below hb (hHeld.2.2.2.2.2.2.2.2.2)⟩ (fun hHeld => ?_)
     clear hK K
     refine norm_ (a' := ?_) ?_ ?_
     rotate_left
     ·
      show Act.put _ (some 23) _ = _
      simp only [Act.put, List.setIfInBounds_toArray, List.set_cons_zero, List.set_cons_succ, i64_w, i32_w]
      rfl
     refine pure_ (i := 8) (N := some 24) (v := ?_) (a' := ?_) #[true, true, true, true, true, true, true, true, true] rfl rfl (any_of HT_.out (by kernel_rfl)) (fun _ _ _ h => h) (Or.inl ⟨by rfl, ?_⟩) ?_ ?_
     rotate_left
     ·
      intro w'
      go_simp
      with_reducible rfl
     rotate_left
     ·
      simp only [Act.put, List.setIfInBounds_toArray, List.set_cons_zero, List.set_cons_succ, i64_w, i32_w]
      rfl
     refine done_ (done_of HT_.out (by kernel_rfl)) ?_
     have hbw3 : Below w.heap.size w w3 := hbw.trans ((below_drewN (Below.refl _ _) 1).trans hb3 |>.mono hbw.size)
     have hb0d : b0 ≤ w3.drew.heap.size := Nat.le_trans hb0 hbw3.size
     have HO3 : kVn.R 48 w3.drew b0 (fun _ => True) u7 o := Kd.R_below (Kd.R_below HO.out ((below_drewN (Below.refl _ _) 1).trans hb3)) (below_drewN (Below.refl _ _) 1)
     have YM3 : kVn.M w3.drew b0 (fun k => k < w.heap.size) y [.string y.key, .int .i64 y.seq, .bool y.gone, .string y.data, .slice B4 y.pairs.length d4] := Kd.M_below YM.out (((below_drewN (Below.refl _ _) 1).trans hb3).drew)
     go_wp2
     refine start_ (n := 10) (S := fun w' => w'.cell? bd = some (.string y.key) ∧ w'.cell? ⟨bd.block, bd.off + 1, none⟩ = some (.int .i64 y.seq) ∧ w'.cell? ⟨bd.block, bd.off + 2, none⟩ = some (.bool y.gone) ∧ w'.cell? ⟨bd.block, bd.off + 3, none⟩ = some (.string y.data) ∧ w'.cell? ⟨bd.block, bd.off + 4, none⟩ = some (.slice B4 y.pairs.length d4)) (ds := [5]) #[false, false, false, false, false, false, false, false, false, false] (by kernel_rfl) rfl rfl ⟨pw_cell_below hb3 y0, pw_cell_below hb3 y1, pw_cell_below hb3 y2, pw_cell_below hb3 y3, pw_cell_below hb3 y4⟩ (fun hHeld => ?_)
     refine with_tabW mG.tab4 mG.bits4 (fun HT_ HW_ => ?_)
     refine pure_ (i := 0) (N := some 25) (v := ?_) (a' := ?_) #[true, false, false, false, false, false, false, false, false, false] rfl rfl (any_of HT_.out (by kernel_rfl)) (fun _ _ _ h => h) (Or.inl ⟨by rfl, ?_⟩) ?_ ?_
     rotate_left
     ·
      intro w'
      go_simp
      with_reducible rfl
     rotate_left
     ·
      simp only [Act.put, List.setIfInBounds_toArray, List.set_cons_zero, List.set_cons_succ, i64_w, i32_w]
      rfl
     refine pure_ (i := 1) (N := some 26) (v := ?_) (a' := ?_) #[true, true, false, false, false, false, false, false, false, false] rfl rfl (any_of HT_.out (by kernel_rfl)) (fun _ _ _ h => h) (Or.inl ⟨by rfl, ?_⟩) ?_ ?_
     rotate_left
     ·
      intro w'
      go_simp
      with_reducible rfl
     rotate_left
     ·
      simp only [Act.put, List.setIfInBounds_toArray, List.set_cons_zero, List.set_cons_succ, i64_w, i32_w]
      rfl
     refine pure_ (i := 2) (N := some 27) (v := ?_) (a' := ?_) #[true, true, true, false, false, false, false, false, false, false] rfl rfl (any_of HT_.out (by kernel_rfl)) (fun _ _ _ h => h) (Or.inl ⟨by rfl, ?_⟩) ?_ ?_
     rotate_left
     ·
      intro w'
      go_simp
      with_reducible rfl
     rotate_left
     ·
      simp only [Act.put, List.setIfInBounds_toArray, List.set_cons_zero, List.set_cons_succ, i64_w, i32_w]
      rfl
     refine pure_ (i := 6) (N := some 31) (v := ?_) (a' := ?_) #[true, true, true, false, false, false, true, false, false, false] rfl rfl (any_of HT_.out (by kernel_rfl)) (fun _ _ _ h => h) (Or.inl ⟨by rfl, ?_⟩) ?_ ?_
     rotate_left
     ·
      intro w'
      go_simp
      with_reducible rfl
     rotate_left
     ·
      simp only [Act.put, List.setIfInBounds_toArray, List.set_cons_zero, List.set_cons_succ, i64_w, i32_w]
      rfl
     refine pure_ (i := 7) (N := some 32) (v := ?_) (a' := ?_) #[true, true, true, false, false, false, true, true, false, false] rfl rfl (any_of HT_.out (by kernel_rfl)) (fun _ _ _ h => h) (Or.inl ⟨by rfl, ?_⟩) ?_ ?_
     rotate_left
     ·
      intro w'
      go_simp
      with_reducible rfl
     rotate_left
     ·
      simp only [Act.put, List.setIfInBounds_toArray, List.set_cons_zero, List.set_cons_succ, i64_w, i32_w]
      rfl
     refine take_ (i := 3) (N := some 28) (v := ?_) (a' := ?_) #[true, true, true, true, false, false, true, true, false, false] rfl rfl (take_ofW HT_.out HW_.out (by kernel_rfl)) (fun _ _ _ h => h) (Or.inl ⟨by rfl, ?_⟩) hHeld ?_ ?_
     rotate_left
     ·
      rintro w' ⟨s0, s1, s2, s3, s4⟩
      go_simp
      with_reducible rfl
     rotate_left
     ·
      simp only [Act.put, List.setIfInBounds_toArray, List.set_cons_zero, List.set_cons_succ, i64_w, i32_w]
      rfl
     refine one_ (i := 4) (N := some 29) #[true, true, true, true, true, false, true, true, false, false] rfl rfl (one_of HT_.out (by kernel_rfl)) (by decide) (fun K hK => ?_)
     refine value_ (w1 := ?_) (v := ?_) (by rfl) rfl ?_ ?_
     rotate_left 2
     ·
      go_simp
      constructor
      ·
       rfl
      ·
       rfl
     refine hK.out _ _ ⟨pw_cell_below (below1 w3.drew _) (hHeld.1), pw_cell_below (below1 w3.drew _) (hHeld.2.1), pw_cell_below (below1 w3.drew _) (hHeld.2.2.1), pw_cell_below (below1 w3.drew _) (hHeld.2.2.2.1), pw_cell_below (below1 w3.drew _) (hHeld.2.2.2.2)⟩ (fun hHeld => ?_)
     clear hK K
     refine norm_ (a' := ?_) ?_ ?_
     rotate_left
     ·
      show Act.put _ (some 29) _ = _
      simp only [Act.put, List.setIfInBounds_toArray, List.set_cons_zero, List.set_cons_succ, i64_w, i32_w]
      rfl
     refine last_ (i := 5) (N := some 30) #[true, true, true, true, true, true, true, true, false, false] rfl rfl (one_of HT_.out (by kernel_rfl)) (by decide) (fun K hK => ?_)
     refine Kd.R_append_step kVn b0 (by rfl) (.tmp 25) (.tmp 29) 22 48 _ 72 rfl Try.underlying22 vn_info rfl (by decide) (by decide) u7 o y [.string y.key, .int .i64 y.seq, .bool y.gone, .string y.data, .slice B4 y.pairs.length d4] (fun _ => True) (fun k => k < w.heap.size) rfl rfl YM3 (fun k hk => ⟨trivial, fun h => by have := HW.out k h.symm; omega⟩) (fun _ _ => trivial) HO3 (Below.refl _ _) hb0d (by omega) ?_
     intro v1 w1 hR hB hg hat
     have HR := Lib.hid hR
     have HG := Lib.hid hg
     have HAT := Lib.hid hat
     clear hR hB hg hat
     refine hK.out _ _ ?_
     clear hK K
     refine norm_ (a' := ?_) ?_ ?_
     rotate_left
     ·
      show Act.put _ (some 30) _ = _
      simp only [Act.put, List.setIfInBounds_toArray, List.set_cons_zero, List.set_cons_succ, i64_w, i32_w]
      rfl
     refine pure_ (i := 8) (N := some 7) (v := ?_) (a' := ?_) #[true, true, true, true, true, true, true, true, true, false] rfl rfl (any_of HT_.out (by kernel_rfl)) (fun _ _ _ h => h) (Or.inl ⟨by rfl, ?_⟩) ?_ ?_
     rotate_left
     ·
      intro w'
      go_simp
      with_reducible rfl
     rotate_left
     ·
      simp only [Act.put, List.setIfInBounds_toArray, List.set_cons_zero, List.set_cons_succ, i64_w, i32_w]
      rfl
     refine pure_ (i := 9) (N := some 1) (v := ?_) (a' := ?_) #[true, true, true, true, true, true, true, true, true, true] rfl rfl (any_of HT_.out (by kernel_rfl)) (fun _ _ _ h => h) (Or.inl ⟨by rfl, ?_⟩) ?_ ?_
     rotate_left
     ·
      intro w'
      go_simp
      with_reducible rfl
     rotate_left
     ·
      simp only [Act.put, List.setIfInBounds_toArray, List.set_cons_zero, List.set_cons_succ, i64_w, i32_w]
      rfl
     refine done_ (done_of HT_.out (by kernel_rfl)) ?_
     have hwr1 : Below w.heap.size wr w1 := (((((below_drewN (Below.refl _ _) 1).trans hb3).mono hbw.size).drew).grown HG.out hbw3.size (fun k hk => HW.out k hk))
     have HN := Lib.hid (hbw.trans hwr1)
     have hat2 := own_after HAT.out HW.out hbw3.size
     have HA5 := HA.out.below hwr1
     have HB5 := HB.out.below hwr1
     have HA6 := HA3.out.below hwr1
     have HB6 := HB3.out.below hwr1
     have hmm : mrg l m = (o ++ [y]) ++ mrg l' (m'.drop 1) := by rw [HM.out, HM1.out, List.append_assoc]; rfl
     have HMM := Lib.hid hmm
     clear hmm
     go_roundw
     case rel =>
      exact ⟨_, _, _, _, _, _, _, _, _, _, _, _, _, _, _, _, _, _, _, _, _, _, _, _, _, _, _, _, _, _, _, _, _, _, _, _, ⟨l', (m'.drop 1), o ++ [y], some ad, B'', c', d' - 1, by first | rfl | (rfl), by first | rfl | (rw [hdb]), hl', by omega, HA5, HB6, HR, hat2, HMM, by rw [List.length_append, hdb, List.length_singleton]; omega, HN.out⟩, rfl⟩
     case measure => simp [slen]; omega
    ·
     have t5 : decide (ordE y x < 0) = false := decide_eq_false q
     have HM1 := HX0 q
     clear HY0 HX0
     go_wp2
     refine start_ (n := 9) (S := fun w' => w'.cell? ad = some (.string x.key) ∧ w'.cell? ⟨ad.block, ad.off + 1, none⟩ = some (.int .i64 x.seq) ∧ w'.cell? ⟨ad.block, ad.off + 2, none⟩ = some (.bool x.gone) ∧ w'.cell? ⟨ad.block, ad.off + 3, none⟩ = some (.string x.data) ∧ w'.cell? ⟨ad.block, ad.off + 4, none⟩ = some (.slice A4 x.pairs.length c4) ∧ w'.cell? bd = some (.string y.key) ∧ w'.cell? ⟨bd.block, bd.off + 1, none⟩ = some (.int .i64 y.seq) ∧ w'.cell? ⟨bd.block, bd.off + 2, none⟩ = some (.bool y.gone) ∧ w'.cell? ⟨bd.block, bd.off + 3, none⟩ = some (.string y.data) ∧ w'.cell? ⟨bd.block, bd.off + 4, none⟩ = some (.slice B4 y.pairs.length d4)) (ds := []) #[false, false, false, false, false, false, false, false, false] (by kernel_rfl) rfl rfl ⟨x0, x1, x2, x3, x4, y0, y1, y2, y3, y4⟩ (fun hHeld => ?_)
     refine with_tabW mG.tab3 mG.bits3 (fun HT_ HW_ => ?_)
     refine pure_ (i := 0) (N := some 16) (v := ?_) (a' := ?_) #[true, false, false, false, false, false, false, false, false] rfl rfl (any_of HT_.out (by kernel_rfl)) (fun _ _ _ h => h) (Or.inl ⟨by rfl, ?_⟩) ?_ ?_
     rotate_left
     ·
      intro w'
      go_simp
      with_reducible rfl
     rotate_left
     ·
      simp only [Act.put, List.setIfInBounds_toArray, List.set_cons_zero, List.set_cons_succ, i64_w, i32_w]
      rfl
     refine pure_ (i := 1) (N := some 17) (v := ?_) (a' := ?_) #[true, true, false, false, false, false, false, false, false] rfl rfl (any_of HT_.out (by kernel_rfl)) (fun _ _ _ h => h) (Or.inl ⟨by rfl, ?_⟩) ?_ ?_
     rotate_left
     ·
      intro w'
      go_simp
      with_reducible rfl
     rotate_left
     ·
      simp only [Act.put, List.setIfInBounds_toArray, List.set_cons_zero, List.set_cons_succ, i64_w, i32_w]
      rfl
     refine pure_ (i := 2) (N := some 18) (v := ?_) (a' := ?_) #[true, true, true, false, false, false, false, false, false] rfl rfl (any_of HT_.out (by kernel_rfl)) (fun _ _ _ h => h) (Or.inl ⟨by rfl, ?_⟩) ?_ ?_
     rotate_left
     ·
      intro w'
      go_simp
      with_reducible rfl
     rotate_left
     ·
      simp only [Act.put, List.setIfInBounds_toArray, List.set_cons_zero, List.set_cons_succ, i64_w, i32_w]
      rfl
     refine pure_ (i := 4) (N := some 20) (v := ?_) (a' := ?_) #[true, true, true, false, true, false, false, false, false] rfl rfl (any_of HT_.out (by kernel_rfl)) (fun _ _ _ h => h) (Or.inl ⟨by rfl, ?_⟩) ?_ ?_
     rotate_left
     ·
      intro w'
      go_simp
      with_reducible rfl
     rotate_left
     ·
      simp only [Act.put, List.setIfInBounds_toArray, List.set_cons_zero, List.set_cons_succ, i64_w, i32_w]
      rfl
     refine pure_ (i := 5) (N := some 21) (v := ?_) (a' := ?_) #[true, true, true, false, true, true, false, false, false] rfl rfl (any_of HT_.out (by kernel_rfl)) (fun _ _ _ h => h) (Or.inl ⟨by rfl, ?_⟩) ?_ ?_
     rotate_left
     ·
      intro w'
      go_simp
      with_reducible rfl
     rotate_left
     ·
      simp only [Act.put, List.setIfInBounds_toArray, List.set_cons_zero, List.set_cons_succ, i64_w, i32_w]
      rfl
     refine take_ (i := 3) (N := some 19) (v := ?_) (a' := ?_) #[true, true, true, true, true, true, false, false, false] rfl rfl (take_ofW HT_.out HW_.out (by kernel_rfl)) (fun _ _ _ h => h) (Or.inl ⟨by rfl, ?_⟩) hHeld ?_ ?_
     rotate_left
     ·
      rintro w' ⟨s0, s1, s2, s3, s4, s5, s6, s7, s8, s9⟩
      go_simp
      with_reducible rfl
     rotate_left
     ·
      simp only [Act.put, List.setIfInBounds_toArray, List.set_cons_zero, List.set_cons_succ, i64_w, i32_w]
      rfl
     refine take_ (i := 6) (N := some 22) (v := ?_) (a' := ?_) #[true, true, true, true, true, true, true, false, false] rfl rfl (take_ofW HT_.out HW_.out (by kernel_rfl)) (fun _ _ _ h => h) (Or.inl ⟨by rfl, ?_⟩) hHeld ?_ ?_
     rotate_left
     ·
      rintro w' ⟨s0, s1, s2, s3, s4, s5, s6, s7, s8, s9⟩
      go_simp
      with_reducible rfl
     rotate_left
     ·
      simp only [Act.put, List.setIfInBounds_toArray, List.set_cons_zero, List.set_cons_succ, i64_w, i32_w]
      rfl
     refine one_ (i := 7) (N := some 23) #[true, true, true, true, true, true, true, true, false] rfl rfl (one_of HT_.out (by kernel_rfl)) (by decide) (fun K hK => ?_)
     refine goesv_ Try.func37 (by kernel_rfl) rfl #[y.val B4 d4, x.val A4 c4] (by rfl) rfl rfl rfl (by simp only [List.map_toArray, List.map_cons, List.map_nil]; rfl) ?_
     with_reducible refine (HS _).out.mono ?_
     rintro e w3 ⟨rfl, hb⟩
     have hb3 := hb
     refine ⟨_, rfl, ?_⟩
     refine hK.out _ _ ⟨pw_cell_below hb (hHeld.1), pw_cell_below hb (hHeld.2.1), pw_cell_below hb (hHeld.2.2.1), pw_cell_below hb (hHeld.2.2.2.1), pw_cell_below hb (hHeld.2.2.2.2.1), pw_cell_below hb (hHeld.2.2.2.2.2.1), pw_cell_below hb (hHeld.2.2.2.2.2.2.1), pw_cell_below hb (hHeld.2.2.2.2.2.2.2.1), pw_cell_below hb (hHeld.2.2.2.2.2.2.2.2.1), pw_cell_below hb (hHeld.2.2.2.2.2.2.2.2.2)⟩ (fun hHeld => ?_)
     clear hK K
     refine norm_ (a' := ?_) ?_ ?_
     rotate_left
     ·
      show Act.put _ (some 23) _ = _
      simp only [Act.put, List.setIfInBounds_toArray, List.set_cons_zero, List.set_cons_succ, i64_w, i32_w]
      rfl
     refine pure_ (i := 8) (N := some 24) (v := ?_) (a' := ?_) #[true, true, true, true, true, true, true, true, true] rfl rfl (any_of HT_.out (by kernel_rfl)) (fun _ _ _ h => h) (Or.inl ⟨by rfl, ?_⟩) ?_ ?_
     rotate_left
     ·
      intro w'
      go_simp
      with_reducible rfl
     rotate_left
     ·
      simp only [Act.put, List.setIfInBounds_toArray, List.set_cons_zero, List.set_cons_succ, i64_w, i32_w]
      rfl
     refine done_ (done_of HT_.out (by kernel_rfl)) ?_
     have hbw3 : Below w.heap.size w w3 := hbw.trans ((below_drewN (Below.refl _ _) 1).trans hb3 |>.mono hbw.size)
     have hb0d : b0 ≤ w3.drew.heap.size := Nat.le_trans hb0 hbw3.size
     have HO3 : kVn.R 48 w3.drew b0 (fun _ => True) u7 o := Kd.R_below (Kd.R_below HO.out ((below_drewN (Below.refl _ _) 1).trans hb3)) (below_drewN (Below.refl _ _) 1)
     have XM3 : kVn.M w3.drew b0 (fun k => k < w.heap.size) x [.string x.key, .int .i64 x.seq, .bool x.gone, .string x.data, .slice A4 x.pairs.length c4] := Kd.M_below XM.out (((below_drewN (Below.refl _ _) 1).trans hb3).drew)
     go_wp2
     refine start_ (n := 10) (S := fun w' => w'.cell? ad = some (.string x.key) ∧ w'.cell? ⟨ad.block, ad.off + 1, none⟩ = some (.int .i64 x.seq) ∧ w'.cell? ⟨ad.block, ad.off + 2, none⟩ = some (.bool x.gone) ∧ w'.cell? ⟨ad.block, ad.off + 3, none⟩ = some (.string x.data) ∧ w'.cell? ⟨ad.block, ad.off + 4, none⟩ = some (.slice A4 x.pairs.length c4)) (ds := [5]) #[false, false, false, false, false, false, false, false, false, false] (by kernel_rfl) rfl rfl ⟨pw_cell_below hb3 x0, pw_cell_below hb3 x1, pw_cell_below hb3 x2, pw_cell_below hb3 x3, pw_cell_below hb3 x4⟩ (fun hHeld => ?_)
     refine with_tabW mG.tab5 mG.bits5 (fun HT_ HW_ => ?_)
     refine pure_ (i := 0) (N := some 33) (v := ?_) (a' := ?_) #[true, false, false, false, false, false, false, false, false, false] rfl rfl (any_of HT_.out (by kernel_rfl)) (fun _ _ _ h => h) (Or.inl ⟨by rfl, ?_⟩) ?_ ?_
     rotate_left
     ·
      intro w'
      go_simp
      with_reducible rfl
     rotate_left
     ·
      simp only [Act.put, List.setIfInBounds_toArray, List.set_cons_zero, List.set_cons_succ, i64_w, i32_w]
      rfl
     refine pure_ (i := 1) (N := some 34) (v := ?_) (a' := ?_) #[true, true, false, false, false, false, false, false, false, false] rfl rfl (any_of HT_.out (by kernel_rfl)) (fun _ _ _ h => h) (Or.inl ⟨by rfl, ?_⟩) ?_ ?_
     rotate_left
     ·
      intro w'
      go_simp
      with_reducible rfl
     rotate_left
     ·
      simp only [Act.put, List.setIfInBounds_toArray, List.set_cons_zero, List.set_cons_succ, i64_w, i32_w]
      rfl
     refine pure_ (i := 2) (N := some 35) (v := ?_) (a' := ?_) #[true, true, true, false, false, false, false, false, false, false] rfl rfl (any_of HT_.out (by kernel_rfl)) (fun _ _ _ h => h) (Or.inl ⟨by rfl, ?_⟩) ?_ ?_
     rotate_left
     ·
      intro w'
      go_simp
      with_reducible rfl
     rotate_left
     ·
      simp only [Act.put, List.setIfInBounds_toArray, List.set_cons_zero, List.set_cons_succ, i64_w, i32_w]
      rfl
     refine pure_ (i := 6) (N := some 39) (v := ?_) (a' := ?_) #[true, true, true, false, false, false, true, false, false, false] rfl rfl (any_of HT_.out (by kernel_rfl)) (fun _ _ _ h => h) (Or.inl ⟨by rfl, ?_⟩) ?_ ?_
     rotate_left
     ·
      intro w'
      go_simp
      with_reducible rfl
     rotate_left
     ·
      simp only [Act.put, List.setIfInBounds_toArray, List.set_cons_zero, List.set_cons_succ, i64_w, i32_w]
      rfl
     refine pure_ (i := 7) (N := some 40) (v := ?_) (a' := ?_) #[true, true, true, false, false, false, true, true, false, false] rfl rfl (any_of HT_.out (by kernel_rfl)) (fun _ _ _ h => h) (Or.inl ⟨by rfl, ?_⟩) ?_ ?_
     rotate_left
     ·
      intro w'
      go_simp
      with_reducible rfl
     rotate_left
     ·
      simp only [Act.put, List.setIfInBounds_toArray, List.set_cons_zero, List.set_cons_succ, i64_w, i32_w]
      rfl
     refine take_ (i := 3) (N := some 36) (v := ?_) (a' := ?_) #[true, true, true, true, false, false, true, true, false, false] rfl rfl (take_ofW HT_.out HW_.out (by kernel_rfl)) (fun _ _ _ h => h) (Or.inl ⟨by rfl, ?_⟩) hHeld ?_ ?_
     rotate_left
     ·
      rintro w' ⟨s0, s1, s2, s3, s4⟩
      go_simp
      with_reducible rfl
     rotate_left
     ·
      simp only [Act.put, List.setIfInBounds_toArray, List.set_cons_zero, List.set_cons_succ, i64_w, i32_w]
      rfl
     refine one_ (i := 4) (N := some 37) #[true, true, true, true, true, false, true, true, false, false] rfl rfl (one_of HT_.out (by kernel_rfl)) (by decide) (fun K hK => ?_)
     refine value_ (w1 := ?_) (v := ?_) (by rfl) rfl ?_ ?_
     rotate_left 2
     ·
      go_simp
      constructor
      ·
       rfl
      ·
       rfl
     refine hK.out _ _ ⟨pw_cell_below (below1 w3.drew _) (hHeld.1), pw_cell_below (below1 w3.drew _) (hHeld.2.1), pw_cell_below (below1 w3.drew _) (hHeld.2.2.1), pw_cell_below (below1 w3.drew _) (hHeld.2.2.2.1), pw_cell_below (below1 w3.drew _) (hHeld.2.2.2.2)⟩ (fun hHeld => ?_)
     clear hK K
     refine norm_ (a' := ?_) ?_ ?_
     rotate_left
     ·
      show Act.put _ (some 37) _ = _
      simp only [Act.put, List.setIfInBounds_toArray, List.set_cons_zero, List.set_cons_succ, i64_w, i32_w]
      rfl
     refine last_ (i := 5) (N := some 38) #[true, true, true, true, true, true, true, true, false, false] rfl rfl (one_of HT_.out (by kernel_rfl)) (by decide) (fun K hK => ?_)
     refine Kd.R_append_step kVn b0 (by rfl) (.tmp 33) (.tmp 37) 22 48 _ 72 rfl Try.underlying22 vn_info rfl (by decide) (by decide) u7 o x [.string x.key, .int .i64 x.seq, .bool x.gone, .string x.data, .slice A4 x.pairs.length c4] (fun _ => True) (fun k => k < w.heap.size) rfl rfl XM3 (fun k hk => ⟨trivial, fun h => by have := HW.out k h.symm; omega⟩) (fun _ _ => trivial) HO3 (Below.refl _ _) hb0d (by omega) ?_
     intro v1 w1 hR hB hg hat
     have HR := Lib.hid hR
     have HG := Lib.hid hg
     have HAT := Lib.hid hat
     clear hR hB hg hat
     refine hK.out _ _ ?_
     clear hK K
     refine norm_ (a' := ?_) ?_ ?_
     rotate_left
     ·
      show Act.put _ (some 38) _ = _
      simp only [Act.put, List.setIfInBounds_toArray, List.set_cons_zero, List.set_cons_succ, i64_w, i32_w]
      rfl
     refine pure_ (i := 8) (N := some 7) (v := ?_) (a' := ?_) #[true, true, true, true, true, true, true, true, true, false] rfl rfl (any_of HT_.out (by kernel_rfl)) (fun _ _ _ h => h) (Or.inl ⟨by rfl, ?_⟩) ?_ ?_
     rotate_left
     ·
      intro w'
      go_simp
      with_reducible rfl
     rotate_left
     ·
      simp only [Act.put, List.setIfInBounds_toArray, List.set_cons_zero, List.set_cons_succ, i64_w, i32_w]
      rfl
     refine pure_ (i := 9) (N := some 0) (v := ?_) (a' := ?_) #[true, true, true, true, true, true, true, true, true, true] rfl rfl (any_of HT_.out (by kernel_rfl)) (fun _ _ _ h => h) (Or.inl ⟨by rfl, ?_⟩) ?_ ?_
     rotate_left
     ·
      intro w'
      go_simp
      with_reducible rfl
     rotate_left
     ·
      simp only [Act.put, List.setIfInBounds_toArray, List.set_cons_zero, List.set_cons_succ, i64_w, i32_w]
      rfl
     refine done_ (done_of HT_.out (by kernel_rfl)) ?_
     have hwr1 : Below w.heap.size wr w1 := (((((below_drewN (Below.refl _ _) 1).trans hb3).mono hbw.size).drew).grown HG.out hbw3.size (fun k hk => HW.out k hk))
     have HN := Lib.hid (hbw.trans hwr1)
     have hat2 := own_after HAT.out HW.out hbw3.size
     have HA5 := HA.out.below hwr1
     have HB5 := HB.out.below hwr1
     have HA6 := HA3.out.below hwr1
     have HB6 := HB3.out.below hwr1
     have hmm : mrg l m = (o ++ [x]) ++ mrg (l'.drop 1) m' := by rw [HM.out, HM1.out, List.append_assoc]; rfl
     have HMM := Lib.hid hmm
     clear hmm
     go_roundw
     case rel =>
      exact ⟨_, _, _, _, _, _, _, _, _, _, _, _, _, _, _, _, _, _, _, _, _, _, _, _, _, _, _, _, _, _, _, _, _, _, _, _, ⟨(l'.drop 1), m', o ++ [x], A'', some bd, c' - 1, d', by first | rfl | (rw [hda]), by first | rfl | (rfl), by omega, hm', HA6, HB5, HR, hat2, HMM, by rw [List.length_append, hda, List.length_singleton]; omega, HN.out⟩, rfl⟩
     case measure => simp [slen]; omega
   ·
    have t1 : decide (0 < l'.length) = true := decide_eq_true q1
    have t2 : decide (0 < m'.length) = false := decide_eq_false q2
    have t3 : decide ((0 : Int) < (l'.length : Int)) = true := decide_eq_true (by omega)
    have t4 : decide ((0 : Int) < (m'.length : Int)) = false := decide_eq_false (by omega)
    have hme : mrg l m = (o ++ l') ++ m' := by rw [HM.out, mrg_end (.inr (by omega)), List.append_assoc]
    have HME := Lib.hid hme
    clear hme
    go_wp2_with (first | (at_builtin; refine Kd.R_append_rows kVn (Rr := kVn.M wr b0 (fun k => k < w.heap.size)) (w0 := wr) b0 rfl _ _ 22 48 _ 72 rfl Try.underlying22 vn_info rfl (by decide) (by decide) u7 o l' A' l'.length c' (fun _ => True) (fun k => k < w.heap.size) rfl rfl HO.out HA.out.1 (fun _ _ h => h) (fun k hk => ⟨trivial, fun h => by have := HW.out k h.symm; omega⟩) (fun _ _ => trivial) (Below.refl _ _) (Nat.le_trans hb0 hbw.size) (by omega) ?_; intro v1 w1 hR hB hg hat; have HR1 := Lib.hid hR; have hB1 : Below w.heap.size wr w1 := (Below.refl _ _).grown hg hbw.size (fun k hk => HW.out k hk); have HW1 := Lib.hid (own_after hat HW.out hbw.size); have HB1 := HB.out.below hB1; clear hR hB hg hat) | (at_builtin; refine Kd.R_append_rows kVn (Rr := kVn.M w1 b0 (fun k => k < w.heap.size)) (w0 := w1) b0 rfl _ _ 22 48 _ 72 rfl Try.underlying22 vn_info rfl (by decide) (by decide) v1 (o ++ l') m' B' m'.length d' (fun _ => True) (fun k => k < w.heap.size) rfl rfl HR1.out HB1.1 (fun _ _ h => h) (fun k hk => ⟨trivial, fun h => by have := HW1.out k h.symm; omega⟩) (fun _ _ => trivial) (Below.refl _ _) (Nat.le_trans hb0 (hbw.trans hB1).size) (by rw [List.length_append]; omega) ?_; intro v2 w2 hR hB hg hat; rw [← HME.out] at hR; have HRR := Lib.hid hR; have hB2 : Below w.heap.size w1 w2 := (Below.refl _ _).grown hg (hbw.trans hB1).size (fun k hk => HW1.out k hk); have HWW := Lib.hid (own_after hat HW1.out (hbw.trans hB1).size); have HNN := Lib.hid ((hbw.trans hB1).trans hB2); clear hR hB hg hat))
    go_ret
    exact ⟨_, rfl, HRR.out, HWW.out, HNN.out⟩
  ·
   have t1 : decide (0 < l'.length) = false := decide_eq_false q1
   have t3 : decide ((0 : Int) < (l'.length : Int)) = false := decide_eq_false (by omega)
   have hme : mrg l m = (o ++ l') ++ m' := by rw [HM.out, mrg_end (.inl (by omega)), List.append_assoc]
   have HME := Lib.hid hme
   clear hme
   go_wp2_with (first | (at_builtin; refine Kd.R_append_rows kVn (Rr := kVn.M wr b0 (fun k => k < w.heap.size)) (w0 := wr) b0 rfl _ _ 22 48 _ 72 rfl Try.underlying22 vn_info rfl (by decide) (by decide) u7 o l' A' l'.length c' (fun _ => True) (fun k => k < w.heap.size) rfl rfl HO.out HA.out.1 (fun _ _ h => h) (fun k hk => ⟨trivial, fun h => by have := HW.out k h.symm; omega⟩) (fun _ _ => trivial) (Below.refl _ _) (Nat.le_trans hb0 hbw.size) (by omega) ?_; intro v1 w1 hR hB hg hat; have HR1 := Lib.hid hR; have hB1 : Below w.heap.size wr w1 := (Below.refl _ _).grown hg hbw.size (fun k hk => HW.out k hk); have HW1 := Lib.hid (own_after hat HW.out hbw.size); have HB1 := HB.out.below hB1; clear hR hB hg hat) | (at_builtin; refine Kd.R_append_rows kVn (Rr := kVn.M w1 b0 (fun k => k < w.heap.size)) (w0 := w1) b0 rfl _ _ 22 48 _ 72 rfl Try.underlying22 vn_info rfl (by decide) (by decide) v1 (o ++ l') m' B' m'.length d' (fun _ => True) (fun k => k < w.heap.size) rfl rfl HR1.out HB1.1 (fun _ _ h => h) (fun k hk => ⟨trivial, fun h => by have := HW1.out k h.symm; omega⟩) (fun _ _ => trivial) (Below.refl _ _) (Nat.le_trans hb0 (hbw.trans hB1).size) (by rw [List.length_append]; omega) ?_; intro v2 w2 hR hB hg hat; rw [← HME.out] at hR; have HRR := Lib.hid hR; have hB2 : Below w.heap.size w1 w2 := (Below.refl _ _).grown hg (hbw.trans hB1).size (fun k hk => HW1.out k hk); have HWW := Lib.hid (own_after hat HW1.out (hbw.trans hB1).size); have HNN := Lib.hid ((hbw.trans hB1).trans hB2); clear hR hB hg hat))
   go_ret
   exact ⟨_, rfl, HRR.out, HWW.out, HNN.out⟩
end Go.Proofs.Ytbhdehkdnenigaa

set_option linter.unusedVariables false
set_option linter.unusedSimpArgs false
namespace Go.Proofs.Ytbhdehkdnenigaa
open Go.RowKit Go.Proofs.YtbhdehkdnenigaaW.PrintWords Go.Proofs.YtbhdehkdnenigaaW.PrintLast
attribute [local go_sem] Vn.val

def aP.T5 : Bool × List (List Nat × List Nat) := (true, [([], []), ([0], [0]), ([], []), ([2], [2]), ([3, 1], [3]), ([1, 4], [1, 4]), ([5], [5]), ([6, 4], [6])])
def aP.B5 : List Nat := [0, 1, 0, 4, 15, 31, 63, 127]
theorem aP.tab5 : rtab .any (opsOf Try.f16 5) = aP.T5 := by kernel_rfl
theorem aP.bits5 : waitsOk aP.T5.2 aP.B5 = true := by kernel_rfl
def aP.T7 : Bool × List (List Nat × List Nat) := (true, [([], []), ([0], [0]), ([1], [1]), ([], []), ([3], [3]), ([4], [4]), ([5, 2], [5]), ([2, 6, 6], [2, 6]), ([7, 7, 0, 1, 2, 3, 4, 5, 6, 7], [7])])
def aP.B7 : List Nat := [0, 1, 3, 0, 8, 24, 63, 127, 255]
theorem aP.tab7 : rtab .any (opsOf Try.f16 7) = aP.T7 := by kernel_rfl
theorem aP.bits7 : waitsOk aP.T7.2 aP.B7 = true := by kernel_rfl
theorem made_slice {w : World} {b0 n c : Nat} {A : Option Addr} {ok : Nat → Prop} {xs : List Vn} (h : kVn.R 48 w b0 ok (.slice A n c) xs) : xs.length ≤ c ∧ Made w b0 w.heap.size A xs := by
 obtain ⟨A', c', e, h1, h2⟩ := made_of h
 cases e
 exact ⟨h1, h2⟩
def noBucket : Value := .agg #[.int .i64 0, .slice none 0 0]
abbrev all64 : Int := -9223372036854775808
def three (w : World) (nx s nx2 : Int) (A B : Option Addr) (n k c d : Nat) : World := ((w.alloc (.cells #[.int .i64 nx, .slice A n c] 24)).alloc (.cells #[.int .i64 s, .int .i64 nx2, .slice B k d] 27)).alloc (.cells #[.int .i64 0, .slice none 0 0] 24)
theorem below3 (w : World) (o p q : Obj) : Below w.heap.size w (((w.alloc o).alloc p).alloc q) := (below2 w o p).alloc (by simp [go_sem]; omega) _
set_option maxRecDepth 100000 in
set_option maxHeartbeats 4000000 in
theorem apply_any (l m : List Vn) (nx s nx2 : Int) (A B : Option Addr) (c d : Nat) (w : World) (hC : kVn.C w A l.length l) (hl : l.length ≤ c) (HR : Room l) (hD : kVn.C w B m.length m) (hm : m.length ≤ d) (HQ : Room m) (h1 : s = nx) (h2 : l.length + m.length ≤ 256) (h3 : wrap64 (wrap64 (bsize l) + wrap64 (bsize m)) ≤ 65536) :
  Calls Try.prog 16 #[.agg #[.int .i64 nx, .slice A l.length c], .agg #[.int .i64 s, .int .i64 nx2, .slice B m.length d]] w fun e w' => ∃ v, e = .returned (.tuple #[.agg #[.int .i64 nx2, v], .int .i64 0]) ∧ kVn.R 48 w' w.heap.size (fun _ => True) v (mrg (since l all64) (since m all64)) ∧ Below w.heap.size w w' := by
 have t1 : (s == nx) = true := by simpa using h1
 have t2 : (s != nx) = false := by simpa using h1
 have t3 : decide ((256 : Int) < (l.length : Int) + (m.length : Int)) = false := decide_eq_false (by omega)
 have t4 : decide ((65536 : Int) < wrap64 (wrap64 (bsize l) + wrap64 (bsize m))) = false := decide_eq_false (Int.not_lt.2 h3)
 have HY1 := fun w' (h : Below w.heap.size w w') => Lib.hid (bytes_any l nx A c w' (Kd.C_below hC h) hl HR.fits)
 have HY2 := fun w' (h : Below w.heap.size w w') => Lib.hid (bytes_any m nx2 B d w' (Kd.C_below hD h) hm HQ.fits)
 have HA1 := fun w' (h : Below w.heap.size w w') => Lib.hid (added_any l (-9223372036854775808) A c w' (Kd.C_below hC h) hl HR)
 have HA2 := fun w' (h : Below w.heap.size w w') => Lib.hid (added_any m (-9223372036854775808) B d w' (Kd.C_below hD h) hm HQ)
 clear hC hD h3
 go_enter Try.func16, Try.ntmps16
 subst h1
 go_upto_region 5 with fail
 have hwW := below3 w (.cells #[.int .i64 s, .slice A l.length c] 24) (.cells #[.int .i64 s, .int .i64 nx2, .slice B m.length d] 27) (.cells #[.int .i64 0, .slice none 0 0] 24)
 have b0 : (three w s s nx2 A B l.length m.length c d).cell? ⟨w.heap.size, 0, none⟩ = some (.int .i64 s) := by simp [three, go_sem]
 have b1 : (three w s s nx2 A B l.length m.length c d).cell? ⟨w.heap.size, 1, none⟩ = some (.slice A l.length c) := by simp [three, go_sem]
 have d1 : (three w s s nx2 A B l.length m.length c d).cell? ⟨w.heap.size + 1, 1, none⟩ = some (.int .i64 nx2) := by simp [three, go_sem]
 have d2 : (three w s s nx2 A B l.length m.length c d).cell? ⟨w.heap.size + 1, 2, none⟩ = some (.slice B m.length d) := by simp [three, go_sem]
 have r0 : (three w s s nx2 A B l.length m.length c d).cell? ⟨w.heap.size + 1 + 1, 0, none⟩ = some (.int .i64 0) := by simp [three, go_sem]
 have r1 : (three w s s nx2 A B l.length m.length c d).cell? ⟨w.heap.size + 1 + 1, 1, none⟩ = some (.slice none 0 0) := by simp [three, go_sem]
 have rf : ∀ j, (three w s s nx2 A B l.length m.length c d).frozen? ⟨w.heap.size + 1 + 1, j, none⟩ = false := fun j => by simp [three, go_sem]
 have hsz : w.heap.size + 3 ≤ (three w s s nx2 A B l.length m.length c d).heap.size := by simp [three, go_sem]
 unfold three at b0 b1 d1 d2 r0 r1 rf hsz
 generalize hnx : s = nx at *
 generalize (((w.alloc (.cells #[.int .i64 nx, .slice A l.length c] 24)).alloc (.cells #[.int .i64 nx, .int .i64 nx2, .slice B m.length d] 27)).alloc (.cells #[.int .i64 0, .slice none 0 0] 24)) = W at *
 refine start_ (n := 8) (S := fun w' => w'.cell? ⟨w.heap.size, 0, none⟩ = some (.int .i64 nx) ∧ w'.cell? ⟨w.heap.size, 1, none⟩ = some (.slice A l.length c) ∧ w'.cell? ⟨w.heap.size + 1, 1, none⟩ = some (.int .i64 nx2) ∧ w'.cell? ⟨w.heap.size + 1, 2, none⟩ = some (.slice B m.length d)) (ds := []) #[false, false, false, false, false, false, false, false] (by kernel_rfl) rfl rfl ⟨b0, b1, d1, d2⟩ (fun hHeld => ?_)
 refine with_tabW aP.tab5 aP.bits5 (fun HT_ HW_ => ?_)
 refine pure_ (i := 2) (N := some 28) (v := ?_) (a' := ?_) #[false, false, true, false, false, false, false, false] rfl rfl (any_of HT_.out (by kernel_rfl)) (fun _ _ _ h => h) (Or.inl ⟨by rfl, ?_⟩) ?_ ?_
 rotate_left
 ·
  intro w'
  go_simp
  with_reducible rfl
 rotate_left
 ·
  simp only [Act.put, List.setIfInBounds_toArray, List.set_cons_zero, List.set_cons_succ, i64_w, i32_w]
  rfl
 refine take_ (i := 0) (N := some 26) (v := ?_) (a' := ?_) #[true, false, true, false, false, false, false, false] rfl rfl (take_ofW HT_.out HW_.out (by kernel_rfl)) (fun _ _ _ h => h) (Or.inl ⟨by rfl, ?_⟩) hHeld ?_ ?_
 rotate_left
 ·
  rintro w' ⟨s0, s1, s2, s3⟩
  go_simp
  with_reducible rfl
 rotate_left
 ·
  simp only [Act.put, List.setIfInBounds_toArray, List.set_cons_zero, List.set_cons_succ, i64_w, i32_w]
  rfl
 refine take_ (i := 3) (N := some 29) (v := ?_) (a' := ?_) #[true, false, true, true, false, false, false, false] rfl rfl (take_ofW HT_.out HW_.out (by kernel_rfl)) (fun _ _ _ h => h) (Or.inl ⟨by rfl, ?_⟩) hHeld ?_ ?_
 rotate_left
 ·
  rintro w' ⟨s0, s1, s2, s3⟩
  go_simp
  with_reducible rfl
 rotate_left
 ·
  simp only [Act.put, List.setIfInBounds_toArray, List.set_cons_zero, List.set_cons_succ, i64_w, i32_w]
  rfl
 refine one_ (i := 1) (N := some 27) #[true, true, true, true, false, false, false, false] rfl rfl (one_of HT_.out (by kernel_rfl)) (by decide) (fun K hK => ?_)
 refine goes_ Try.func35 (by kernel_rfl) rfl #[.agg #[.int .i64 nx, .slice A l.length c]] (by rfl) rfl rfl (by simp only [List.map_toArray, List.map_cons, List.map_nil]; rfl) ?_
 with_reducible refine ((HY1 _ hwW.drew).out).mono ?_
 rintro e w3 ⟨rfl, hb⟩
 refine ⟨_, rfl, ?_⟩
 have hb3 := hb
 have hw3 : Below w.heap.size w w3 := hwW.drew.trans (hb.mono hwW.drew.size)
 refine hK.out _ _ ⟨pw_cell_below hb (hHeld.1), pw_cell_below hb (hHeld.2.1), pw_cell_below hb (hHeld.2.2.1), pw_cell_below hb (hHeld.2.2.2)⟩ (fun hHeld => ?_)
 clear hK K
 refine norm_ (a' := ?_) ?_ ?_
 rotate_left
 ·
  show Act.put _ (some 27) _ = _
  simp only [Act.put, List.setIfInBounds_toArray, List.set_cons_zero, List.set_cons_succ, i64_w, i32_w]
  rfl
 refine one_ (i := 4) (N := some 30) #[true, true, true, true, true, false, false, false] rfl rfl (one_of HT_.out (by kernel_rfl)) (by decide) (fun K hK => ?_)
 refine goes_ Try.func35 (by kernel_rfl) rfl #[.agg #[.int .i64 nx2, .slice B m.length d]] (by rfl) rfl rfl (by simp only [List.map_toArray, List.map_cons, List.map_nil]; rfl) ?_
 with_reducible refine ((HY2 _ hw3).out).mono ?_
 rintro e w4 ⟨rfl, hb⟩
 refine ⟨_, rfl, ?_⟩
 have hb4 := hb
 have hw4 : Below w.heap.size w w4 := hw3.trans (hb.mono hw3.size)
 have hW4 : Below W.heap.size W w4 := ((Below.refl _ _).drew.trans hb3).trans (hb.mono hb3.size)
 clear hb
 refine hK.out _ _ ⟨pw_cell_below hb4 (hHeld.1), pw_cell_below hb4 (hHeld.2.1), pw_cell_below hb4 (hHeld.2.2.1), pw_cell_below hb4 (hHeld.2.2.2)⟩ (fun hHeld => ?_)
 clear hK K
 refine norm_ (a' := ?_) ?_ ?_
 rotate_left
 ·
  show Act.put _ (some 30) _ = _
  simp only [Act.put, List.setIfInBounds_toArray, List.set_cons_zero, List.set_cons_succ, i64_w, i32_w]
  rfl
 refine pure_ (i := 5) (N := some 31) (v := ?_) (a' := ?_) #[true, true, true, true, true, true, false, false] rfl rfl (any_of HT_.out (by kernel_rfl)) (fun _ _ _ h => h) (Or.inl ⟨by rfl, ?_⟩) ?_ ?_
 rotate_left
 ·
  intro w'
  go_simp
  with_reducible rfl
 rotate_left
 ·
  simp only [Act.put, List.setIfInBounds_toArray, List.set_cons_zero, List.set_cons_succ, i64_w, i32_w]
  rfl
 refine pure_ (i := 6) (N := some 32) (v := ?_) (a' := ?_) #[true, true, true, true, true, true, true, false] rfl rfl (any_of HT_.out (by kernel_rfl)) (fun _ _ _ h => h) (Or.inl ⟨by rfl, ?_⟩) ?_ ?_
 rotate_left
 ·
  intro w'
  go_simp
  with_reducible rfl
 rotate_left
 ·
  simp only [Act.put, List.setIfInBounds_toArray, List.set_cons_zero, List.set_cons_succ, i64_w, i32_w]
  rfl
 refine pure_ (i := 7) (N := some 25) (v := ?_) (a' := ?_) #[true, true, true, true, true, true, true, true] rfl rfl (any_of HT_.out (by kernel_rfl)) (fun _ _ _ h => h) (Or.inl ⟨by rfl, ?_⟩) ?_ ?_
 rotate_left
 ·
  intro w'
  go_simp
  with_reducible rfl
 rotate_left
 ·
  simp only [Act.put, List.setIfInBounds_toArray, List.set_cons_zero, List.set_cons_succ, i64_w, i32_w]
  rfl
 refine done_ (done_of HT_.out (by kernel_rfl)) ?_
 have hHeld4 := hHeld
 clear hHeld
 go_upto_region 7 with fail
 refine start_ (n := 9) (S := fun w' => w'.cell? ⟨w.heap.size, 0, none⟩ = some (.int .i64 nx) ∧ w'.cell? ⟨w.heap.size, 1, none⟩ = some (.slice A l.length c) ∧ w'.cell? ⟨w.heap.size + 1, 1, none⟩ = some (.int .i64 nx2) ∧ w'.cell? ⟨w.heap.size + 1, 2, none⟩ = some (.slice B m.length d)) (ds := []) #[false, false, false, false, false, false, false, false, false] (by kernel_rfl) rfl rfl ⟨hHeld4.1, hHeld4.2.1, hHeld4.2.2.1, hHeld4.2.2.2⟩ (fun hHeld => ?_)
 refine with_tabW aP.tab7 aP.bits7 (fun HT_ HW_ => ?_)
 refine pure_ (i := 0) (N := some 34) (v := ?_) (a' := ?_) #[true, false, false, false, false, false, false, false, false] rfl rfl (any_of HT_.out (by kernel_rfl)) (fun _ _ _ h => h) (Or.inl ⟨by rfl, ?_⟩) ?_ ?_
 rotate_left
 ·
  intro w'
  go_simp
  with_reducible rfl
 rotate_left
 ·
  simp only [Act.put, List.setIfInBounds_toArray, List.set_cons_zero, List.set_cons_succ, i64_w, i32_w]
  rfl
 refine pure_ (i := 3) (N := some 37) (v := ?_) (a' := ?_) #[true, false, false, true, false, false, false, false, false] rfl rfl (any_of HT_.out (by kernel_rfl)) (fun _ _ _ h => h) (Or.inl ⟨by rfl, ?_⟩) ?_ ?_
 rotate_left
 ·
  intro w'
  go_simp
  with_reducible rfl
 rotate_left
 ·
  simp only [Act.put, List.setIfInBounds_toArray, List.set_cons_zero, List.set_cons_succ, i64_w, i32_w]
  rfl
 refine pure_ (i := 4) (N := some 38) (v := ?_) (a' := ?_) #[true, false, false, true, true, false, false, false, false] rfl rfl (any_of HT_.out (by kernel_rfl)) (fun _ _ _ h => h) (Or.inl ⟨by rfl, ?_⟩) ?_ ?_
 rotate_left
 ·
  intro w'
  go_simp
  with_reducible rfl
 rotate_left
 ·
  simp only [Act.put, List.setIfInBounds_toArray, List.set_cons_zero, List.set_cons_succ, i64_w, i32_w]
  rfl
 refine take_ (i := 1) (N := some 35) (v := ?_) (a' := ?_) #[true, true, false, true, true, false, false, false, false] rfl rfl (take_ofW HT_.out HW_.out (by kernel_rfl)) (fun _ _ _ h => h) (Or.inl ⟨by rfl, ?_⟩) hHeld ?_ ?_
 rotate_left
 ·
  rintro w' ⟨s0, s1, s2, s3⟩
  go_simp
  with_reducible rfl
 rotate_left
 ·
  simp only [Act.put, List.setIfInBounds_toArray, List.set_cons_zero, List.set_cons_succ, i64_w, i32_w]
  rfl
 refine take_ (i := 5) (N := some 39) (v := ?_) (a' := ?_) #[true, true, false, true, true, true, false, false, false] rfl rfl (take_ofW HT_.out HW_.out (by kernel_rfl)) (fun _ _ _ h => h) (Or.inl ⟨by rfl, ?_⟩) hHeld ?_ ?_
 rotate_left
 ·
  rintro w' ⟨s0, s1, s2, s3⟩
  go_simp
  with_reducible rfl
 rotate_left
 ·
  simp only [Act.put, List.setIfInBounds_toArray, List.set_cons_zero, List.set_cons_succ, i64_w, i32_w]
  rfl
 refine one_ (i := 2) (N := some 36) #[true, true, true, true, true, true, false, false, false] rfl rfl (one_of HT_.out (by kernel_rfl)) (by decide) (fun K hK => ?_)
 refine goes_ Try.func28 (by kernel_rfl) rfl #[.slice none 0 0, .slice A l.length c, .int .i64 (-9223372036854775808)] (by rfl) rfl rfl (by simp only [List.map_toArray, List.map_cons, List.map_nil]; rfl) ?_
 with_reducible refine ((HA1 _ hw4.drew).out).mono ?_
 rintro e w5 ⟨v5, rfl, hv, hb⟩
 refine ⟨_, rfl, ?_⟩
 have hb5 := hb
 have hw5 : Below w.heap.size w w5 := hw4.drew.trans (hb.mono hw4.drew.size)
 obtain ⟨A5, c5, rfl⟩ := Kd.R_slice hv
 have HV5 := Lib.hid hv
 clear hv
 refine hK.out _ _ ⟨pw_cell_below hb (hHeld.1), pw_cell_below hb (hHeld.2.1), pw_cell_below hb (hHeld.2.2.1), pw_cell_below hb (hHeld.2.2.2)⟩ (fun hHeld => ?_)
 clear hK K
 refine norm_ (a' := ?_) ?_ ?_
 rotate_left
 ·
  show Act.put _ (some 36) _ = _
  simp only [Act.put, List.setIfInBounds_toArray, List.set_cons_zero, List.set_cons_succ, i64_w, i32_w]
  rfl
 refine one_ (i := 6) (N := some 40) #[true, true, true, true, true, true, true, false, false] rfl rfl (one_of HT_.out (by kernel_rfl)) (by decide) (fun K hK => ?_)
 refine goes_ Try.func28 (by kernel_rfl) rfl #[.slice none 0 0, .slice B m.length d, .int .i64 (-9223372036854775808)] (by rfl) rfl rfl (by simp only [List.map_toArray, List.map_cons, List.map_nil]; rfl) ?_
 with_reducible refine ((HA2 _ hw5).out).mono ?_
 rintro e w6 ⟨v6, rfl, hv, hb⟩
 refine ⟨_, rfl, ?_⟩
 have hb6 := hb
 have hw6 : Below w.heap.size w w6 := hw5.trans (hb.mono hw5.size)
 obtain ⟨A6, c6, rfl⟩ := Kd.R_slice hv
 have HV6 := Lib.hid hv
 clear hv
 refine hK.out _ _ ⟨pw_cell_below hb (hHeld.1), pw_cell_below hb (hHeld.2.1), pw_cell_below hb (hHeld.2.2.1), pw_cell_below hb (hHeld.2.2.2)⟩ (fun hHeld => ?_)
 clear hK K
 refine norm_ (a' := ?_) ?_ ?_
 rotate_left
 ·
  show Act.put _ (some 40) _ = _
  simp only [Act.put, List.setIfInBounds_toArray, List.set_cons_zero, List.set_cons_succ, i64_w, i32_w]
  rfl
 refine one_ (i := 7) (N := some 41) #[true, true, true, true, true, true, true, true, false] rfl rfl (one_of HT_.out (by kernel_rfl)) (by decide) (fun K hK => ?_)
 have hN : W.heap.size ≤ w4.drew.heap.size := hW4.size
 have R5 : kVn.R 48 w6 W.heap.size (fun _ => True) (.slice A5 (since l (-9223372036854775808)).length c5) (since l (-9223372036854775808)) := Kd.R_below (Kd.R_lower HV5.out hN) hb6
 have R6 : kVn.R 48 w6 W.heap.size (fun _ => True) (.slice A6 (since m (-9223372036854775808)).length c6) (since m (-9223372036854775808)) := Kd.R_lower HV6.out (Nat.le_trans hN hb5.size)
 obtain ⟨p1, M1⟩ := made_slice R5
 obtain ⟨p2, M2⟩ := made_slice R6
 have HM := Lib.hid (merged_any _ _ A5 A6 c5 c6 W.heap.size w6 (Nat.le_trans (Nat.le_trans hN hb5.size) hb6.size) M1 M2 p1 p2 (by have := since_len l (-9223372036854775808); have := since_len m (-9223372036854775808); omega))
 clear R5 R6 M1 M2
 refine goes_ Try.func36 (by kernel_rfl) rfl #[.slice A5 (since l (-9223372036854775808)).length c5, .slice A6 (since m (-9223372036854775808)).length c6, .func (.func 37) #[] #[]] (by rfl) rfl rfl (by simp only [List.map_toArray, List.map_cons, List.map_nil]; rfl) ?_
 with_reducible refine (HM.out).mono ?_
 rintro e w7 ⟨v7, rfl, hv, ho, hb⟩
 refine ⟨_, rfl, ?_⟩
 have hb7 := hb
 have hw7 : Below w.heap.size w w7 := hw6.trans (hb.mono hw6.size)
 obtain ⟨A7, c7, rfl⟩ := Kd.R_slice hv
 have HV7 := Lib.hid hv
 clear hv ho
 refine hK.out _ _ ⟨pw_cell_below hb (hHeld.1), pw_cell_below hb (hHeld.2.1), pw_cell_below hb (hHeld.2.2.1), pw_cell_below hb (hHeld.2.2.2)⟩ (fun hHeld => ?_)
 clear hK K
 refine norm_ (a' := ?_) ?_ ?_
 rotate_left
 ·
  show Act.put _ (some 41) _ = _
  simp only [Act.put, List.setIfInBounds_toArray, List.set_cons_zero, List.set_cons_succ, i64_w, i32_w]
  rfl
 refine pure_ (i := 8) (N := some 6) (v := ?_) (a' := ?_) #[true, true, true, true, true, true, true, true, true] rfl rfl (any_of HT_.out (by kernel_rfl)) (fun _ _ _ h => h) (Or.inl ⟨by rfl, ?_⟩) ?_ ?_
 rotate_left
 ·
  intro w'
  go_simp
  with_reducible rfl
 rotate_left
 ·
  simp only [Act.put, List.setIfInBounds_toArray, List.set_cons_zero, List.set_cons_succ, i64_w, i32_w]
  rfl
 refine done_ (done_of HT_.out (by kernel_rfl)) ?_
 have hW7 : Below W.heap.size W w7 := hW4.drew.trans ((hb5.trans ((hb6.trans (hb7.mono hb6.size)).mono hb5.size)).mono hW4.drew.size)
 have r07 := pw_cell_below hW7 r0
 have r17 := pw_cell_below hW7 r1
 have rf7 : ∀ j, w7.frozen? ⟨w.heap.size + 1 + 1, j, none⟩ = false := fun j => frozen_below hW7 (show w.heap.size + 1 + 1 < W.heap.size by omega) (rf j)
 have z1 := hHeld.2.2.1
 go_wp2
 have hR2 : kVn.R 48 w7 W.heap.size (fun k => W.heap.size ≤ k) (.slice A7 (mrg (since l all64) (since m all64)).length c7) (mrg (since l all64) (since m all64)) := Kd.R_mono (Kd.R_bound HV7.out) (fun k hk => hk.2.1)
 refine bodyPost_ret (v := .tuple #[.agg #[.int .i64 nx2, .slice A7 (mrg (since l all64) (since m all64)).length c7], .int .i64 0]) (by simp [results, Try.results16, go_sem, r07, r17]) rfl ?_
 refine ⟨_, rfl, ?_, ?_⟩
 ·
  refine Kd.R_lower (Kd.R_mono (Kd.R_far (Kd.R_far hR2 ?_ _) ?_ _) (fun _ _ => trivial)) (by omega)
  all_goals (intro k hk; show k ≠ _; simp only; omega)
 ·
  exact (hw7.setCell (by simp; omega) _).setCell (by simp; omega) _
set_option maxRecDepth 100000 in
set_option maxHeartbeats 4000000 in
/-- refused for its bytes -/
theorem apply_bytes (l m : List Vn) (nx s nx2 : Int) (A B : Option Addr) (c d : Nat) (w : World) (hC : kVn.C w A l.length l) (hl : l.length ≤ c) (HR : Room l) (hD : kVn.C w B m.length m) (hm : m.length ≤ d) (HQ : Room m) (h1 : s = nx) (h2 : l.length + m.length ≤ 256) (h3 : ¬ wrap64 (wrap64 (bsize l) + wrap64 (bsize m)) ≤ 65536) :
  Calls Try.prog 16 #[.agg #[.int .i64 nx, .slice A l.length c], .agg #[.int .i64 s, .int .i64 nx2, .slice B m.length d]] w fun e w' => e = .returned (.tuple #[noBucket, .int .i64 76]) ∧ Below w.heap.size w w' := by
 have t1 : (s == nx) = true := by simpa using h1
 have t2 : (s != nx) = false := by simpa using h1
 have t3 : decide ((256 : Int) < (l.length : Int) + (m.length : Int)) = false := decide_eq_false (by omega)
 have t4 : decide ((65536 : Int) < wrap64 (wrap64 (bsize l) + wrap64 (bsize m))) = true := decide_eq_true (Int.not_le.1 h3)
 have HY1 := fun w' (h : Below w.heap.size w w') => Lib.hid (bytes_any l nx A c w' (Kd.C_below hC h) hl HR.fits)
 have HY2 := fun w' (h : Below w.heap.size w w') => Lib.hid (bytes_any m nx2 B d w' (Kd.C_below hD h) hm HQ.fits)
 clear hC hD h3
 go_enter Try.func16, Try.ntmps16
 subst h1
 go_upto_region 5 with fail
 have hwW := below3 w (.cells #[.int .i64 s, .slice A l.length c] 24) (.cells #[.int .i64 s, .int .i64 nx2, .slice B m.length d] 27) (.cells #[.int .i64 0, .slice none 0 0] 24)
 have b0 : (three w s s nx2 A B l.length m.length c d).cell? ⟨w.heap.size, 0, none⟩ = some (.int .i64 s) := by simp [three, go_sem]
 have b1 : (three w s s nx2 A B l.length m.length c d).cell? ⟨w.heap.size, 1, none⟩ = some (.slice A l.length c) := by simp [three, go_sem]
 have d1 : (three w s s nx2 A B l.length m.length c d).cell? ⟨w.heap.size + 1, 1, none⟩ = some (.int .i64 nx2) := by simp [three, go_sem]
 have d2 : (three w s s nx2 A B l.length m.length c d).cell? ⟨w.heap.size + 1, 2, none⟩ = some (.slice B m.length d) := by simp [three, go_sem]
 have r0 : (three w s s nx2 A B l.length m.length c d).cell? ⟨w.heap.size + 1 + 1, 0, none⟩ = some (.int .i64 0) := by simp [three, go_sem]
 have r1 : (three w s s nx2 A B l.length m.length c d).cell? ⟨w.heap.size + 1 + 1, 1, none⟩ = some (.slice none 0 0) := by simp [three, go_sem]
 have rf : ∀ j, (three w s s nx2 A B l.length m.length c d).frozen? ⟨w.heap.size + 1 + 1, j, none⟩ = false := fun j => by simp [three, go_sem]
 have hsz : w.heap.size + 3 ≤ (three w s s nx2 A B l.length m.length c d).heap.size := by simp [three, go_sem]
 unfold three at b0 b1 d1 d2 r0 r1 rf hsz
 generalize hnx : s = nx at *
 generalize (((w.alloc (.cells #[.int .i64 nx, .slice A l.length c] 24)).alloc (.cells #[.int .i64 nx, .int .i64 nx2, .slice B m.length d] 27)).alloc (.cells #[.int .i64 0, .slice none 0 0] 24)) = W at *
 refine start_ (n := 8) (S := fun w' => w'.cell? ⟨w.heap.size, 0, none⟩ = some (.int .i64 nx) ∧ w'.cell? ⟨w.heap.size, 1, none⟩ = some (.slice A l.length c) ∧ w'.cell? ⟨w.heap.size + 1, 1, none⟩ = some (.int .i64 nx2) ∧ w'.cell? ⟨w.heap.size + 1, 2, none⟩ = some (.slice B m.length d)) (ds := []) #[false, false, false, false, false, false, false, false] (by kernel_rfl) rfl rfl ⟨b0, b1, d1, d2⟩ (fun hHeld => ?_)
 refine with_tabW aP.tab5 aP.bits5 (fun HT_ HW_ => ?_)
 refine pure_ (i := 2) (N := some 28) (v := ?_) (a' := ?_) #[false, false, true, false, false, false, false, false] rfl rfl (any_of HT_.out (by kernel_rfl)) (fun _ _ _ h => h) (Or.inl ⟨by rfl, ?_⟩) ?_ ?_
 rotate_left
 ·
  intro w'
  go_simp
  with_reducible rfl
 rotate_left
 ·
  simp only [Act.put, List.setIfInBounds_toArray, List.set_cons_zero, List.set_cons_succ, i64_w, i32_w]
  rfl
 refine take_ (i := 0) (N := some 26) (v := ?_) (a' := ?_) #[true, false, true, false, false, false, false, false] rfl rfl (take_ofW HT_.out HW_.out (by kernel_rfl)) (fun _ _ _ h => h) (Or.inl ⟨by rfl, ?_⟩) hHeld ?_ ?_
 rotate_left
 ·
  rintro w' ⟨s0, s1, s2, s3⟩
  go_simp
  with_reducible rfl
 rotate_left
 ·
  simp only [Act.put, List.setIfInBounds_toArray, List.set_cons_zero, List.set_cons_succ, i64_w, i32_w]
  rfl
 refine take_ (i := 3) (N := some 29) (v := ?_) (a' := ?_) #[true, false, true, true, false, false, false, false] rfl rfl (take_ofW HT_.out HW_.out (by kernel_rfl)) (fun _ _ _ h => h) (Or.inl ⟨by rfl, ?_⟩) hHeld ?_ ?_
 rotate_left
 ·
  rintro w' ⟨s0, s1, s2, s3⟩
  go_simp
  with_reducible rfl
 rotate_left
 ·
  simp only [Act.put, List.setIfInBounds_toArray, List.set_cons_zero, List.set_cons_succ, i64_w, i32_w]
  rfl
 refine one_ (i := 1) (N := some 27) #[true, true, true, true, false, false, false, false] rfl rfl (one_of HT_.out (by kernel_rfl)) (by decide) (fun K hK => ?_)
 refine goes_ Try.func35 (by kernel_rfl) rfl #[.agg #[.int .i64 nx, .slice A l.length c]] (by rfl) rfl rfl (by simp only [List.map_toArray, List.map_cons, List.map_nil]; rfl) ?_
 with_reducible refine ((HY1 _ hwW.drew).out).mono ?_
 rintro e w3 ⟨rfl, hb⟩
 refine ⟨_, rfl, ?_⟩
 have hb3 := hb
 have hw3 : Below w.heap.size w w3 := hwW.drew.trans (hb.mono hwW.drew.size)
 refine hK.out _ _ ⟨pw_cell_below hb (hHeld.1), pw_cell_below hb (hHeld.2.1), pw_cell_below hb (hHeld.2.2.1), pw_cell_below hb (hHeld.2.2.2)⟩ (fun hHeld => ?_)
 clear hK K
 refine norm_ (a' := ?_) ?_ ?_
 rotate_left
 ·
  show Act.put _ (some 27) _ = _
  simp only [Act.put, List.setIfInBounds_toArray, List.set_cons_zero, List.set_cons_succ, i64_w, i32_w]
  rfl
 refine one_ (i := 4) (N := some 30) #[true, true, true, true, true, false, false, false] rfl rfl (one_of HT_.out (by kernel_rfl)) (by decide) (fun K hK => ?_)
 refine goes_ Try.func35 (by kernel_rfl) rfl #[.agg #[.int .i64 nx2, .slice B m.length d]] (by rfl) rfl rfl (by simp only [List.map_toArray, List.map_cons, List.map_nil]; rfl) ?_
 with_reducible refine ((HY2 _ hw3).out).mono ?_
 rintro e w4 ⟨rfl, hb⟩
 refine ⟨_, rfl, ?_⟩
 have hb4 := hb
 have hw4 : Below w.heap.size w w4 := hw3.trans (hb.mono hw3.size)
 have hW4 : Below W.heap.size W w4 := ((Below.refl _ _).drew.trans hb3).trans (hb.mono hb3.size)
 clear hb
 refine hK.out _ _ ⟨pw_cell_below hb4 (hHeld.1), pw_cell_below hb4 (hHeld.2.1), pw_cell_below hb4 (hHeld.2.2.1), pw_cell_below hb4 (hHeld.2.2.2)⟩ (fun hHeld => ?_)
 clear hK K
 refine norm_ (a' := ?_) ?_ ?_
 rotate_left
 ·
  show Act.put _ (some 30) _ = _
  simp only [Act.put, List.setIfInBounds_toArray, List.set_cons_zero, List.set_cons_succ, i64_w, i32_w]
  rfl
 refine pure_ (i := 5) (N := some 31) (v := ?_) (a' := ?_) #[true, true, true, true, true, true, false, false] rfl rfl (any_of HT_.out (by kernel_rfl)) (fun _ _ _ h => h) (Or.inl ⟨by rfl, ?_⟩) ?_ ?_
 rotate_left
 ·
  intro w'
  go_simp
  with_reducible rfl
 rotate_left
 ·
  simp only [Act.put, List.setIfInBounds_toArray, List.set_cons_zero, List.set_cons_succ, i64_w, i32_w]
  rfl
 refine pure_ (i := 6) (N := some 32) (v := ?_) (a' := ?_) #[true, true, true, true, true, true, true, false] rfl rfl (any_of HT_.out (by kernel_rfl)) (fun _ _ _ h => h) (Or.inl ⟨by rfl, ?_⟩) ?_ ?_
 rotate_left
 ·
  intro w'
  go_simp
  with_reducible rfl
 rotate_left
 ·
  simp only [Act.put, List.setIfInBounds_toArray, List.set_cons_zero, List.set_cons_succ, i64_w, i32_w]
  rfl
 refine pure_ (i := 7) (N := some 25) (v := ?_) (a' := ?_) #[true, true, true, true, true, true, true, true] rfl rfl (any_of HT_.out (by kernel_rfl)) (fun _ _ _ h => h) (Or.inl ⟨by rfl, ?_⟩) ?_ ?_
 rotate_left
 ·
  intro w'
  go_simp
  with_reducible rfl
 rotate_left
 ·
  simp only [Act.put, List.setIfInBounds_toArray, List.set_cons_zero, List.set_cons_succ, i64_w, i32_w]
  rfl
 refine done_ (done_of HT_.out (by kernel_rfl)) ?_
 have r07 := pw_cell_below hW4 r0
 have r17 := pw_cell_below hW4 r1
 have rf7 : ∀ j, w4.frozen? ⟨w.heap.size + 1 + 1, j, none⟩ = false := fun j => frozen_below hW4 (show w.heap.size + 1 + 1 < W.heap.size by omega) (rf j)
 clear hHeld
 go_wp2
 refine bodyPost_ret (v := .tuple #[noBucket, .int .i64 76]) (by simp [results, Try.results16, go_sem, noBucket, r07, r17]) rfl ?_
 exact ⟨rfl, by first | exact hw4 | exact (hw4.setCell (by show w.heap.size ≤ w.heap.size + 1 + 1; omega) _).setCell (by show w.heap.size ≤ w.heap.size + 1 + 1; omega) _⟩
set_option maxRecDepth 100000 in
set_option maxHeartbeats 1000000 in
/-- refused for its marker, or for its count -/
theorem apply_marker (l m : List Vn) (nx s nx2 : Int) (A B : Option Addr) (c d : Nat) (w : World) (h1 : s ≠ nx) :
  Calls Try.prog 16 #[.agg #[.int .i64 nx, .slice A l.length c], .agg #[.int .i64 s, .int .i64 nx2, .slice B m.length d]] w fun e w' => e = .returned (.tuple #[noBucket, .int .i64 91]) ∧ Below w.heap.size w w' := by
 have t1 : (s == nx) = false := by simpa using h1
 have t2 : (s != nx) = true := by simpa using h1
 have hwW := below3 w (.cells #[.int .i64 nx, .slice A l.length c] 24) (.cells #[.int .i64 s, .int .i64 nx2, .slice B m.length d] 27) (.cells #[.int .i64 0, .slice none 0 0] 24)
 go_enter Try.func16, Try.ntmps16
 go_wp2
 refine bodyPost_ret (v := .tuple #[noBucket, .int .i64 91]) (by simp [results, Try.results16, go_sem, noBucket]) rfl ?_
 exact ⟨rfl, by first | exact hwW | exact (hwW.setCell (by show w.heap.size ≤ w.heap.size + 1 + 1; omega) _).setCell (by show w.heap.size ≤ w.heap.size + 1 + 1; omega) _⟩
set_option maxRecDepth 100000 in
set_option maxHeartbeats 1000000 in
theorem apply_count (l m : List Vn) (nx s nx2 : Int) (A B : Option Addr) (c d : Nat) (w : World) (hl : l.length ≤ 9223372036854775807) (HR : l.length * 72 ≤ 140737488351232) (HQ : m.length * 72 ≤ 140737488351232) (h1 : s = nx) (h2 : ¬ l.length + m.length ≤ 256) :
  Calls Try.prog 16 #[.agg #[.int .i64 nx, .slice A l.length c], .agg #[.int .i64 s, .int .i64 nx2, .slice B m.length d]] w fun e w' => e = .returned (.tuple #[noBucket, .int .i64 75]) ∧ Below w.heap.size w w' := by
 have t1 : (s == nx) = true := by simpa using h1
 have t2 : (s != nx) = false := by simpa using h1
 subst h1
 have t3 : decide ((256 : Int) < (l.length : Int) + (m.length : Int)) = true := decide_eq_true (by omega)
 have hwW := below3 w (.cells #[.int .i64 s, .slice A l.length c] 24) (.cells #[.int .i64 s, .int .i64 nx2, .slice B m.length d] 27) (.cells #[.int .i64 0, .slice none 0 0] 24)
 go_enter Try.func16, Try.ntmps16
 go_wp2
 refine bodyPost_ret (v := .tuple #[noBucket, .int .i64 75]) (by simp [results, Try.results16, go_sem, noBucket]) rfl ?_
 exact ⟨rfl, by first | exact hwW | exact (hwW.setCell (by show w.heap.size ≤ w.heap.size + 1 + 1; omega) _).setCell (by show w.heap.size ≤ w.heap.size + 1 + 1; omega) _⟩
end Go.Proofs.Ytbhdehkdnenigaa

namespace Go.Proofs.Ytbhdehkdnenigaa.PD3
open PDeltaLaid Go.RowKit Go.Proofs.YtbhdehkdnenigaaW.PrintWords Go.Proofs.YtbhdehkdnenigaaW.PrintLast Go.Proofs.YtbhdehkdnenigaaW.PrintMore
attribute [local go_sem] max2_int min2_int max_two min_two max_three min_three max_four min_four   -- for this text's walks alone
set_option linter.unusedVariables false
set_option linter.unusedSimpArgs false

/-! ### cofferlaw19_example: function 27 -/
def cofferlaw19_example.f  : Option (Int × (List (S48))) := some (5, (([(⟨(⟨#[97]⟩ : ByteArray), 1, false, (⟨#[120]⟩ : ByteArray), ([] : List (S60))⟩ : S48), (⟨(⟨#[97]⟩ : ByteArray), 4, true, (⟨#[]⟩ : ByteArray), ([] : List (S60))⟩ : S48), (⟨(⟨#[98]⟩ : ByteArray), 2, false, (⟨#[121]⟩ : ByteArray), ([] : List (S60))⟩ : S48)] : List (S48))))
set_option maxHeartbeats 8000000 in
set_option maxRecDepth 100000 in
theorem cofferlaw19_example.calls  (r1 : Int) (r2 : List (S48)) (w : World) (h : cofferlaw19_example.f  = some (r1, r2)) :
    Calls Try.prog 27 #[] w fun e w' => ∃ v1_ : Value, e = .returned (.agg #[.int .i64 r1, v1_]) ∧ Kd.S k48 48 w' w.heap.size (fun _ => True) v1_ r2 ∧ Below w.heap.size w w' := by
  have hu24 := Try.underlying24
  have hu48 := Try.underlying48
  have HB := Aside0.mk (Below.refl w.heap.size w)
  have H : (some (5, (([(⟨(⟨#[97]⟩ : ByteArray), 1, false, (⟨#[120]⟩ : ByteArray), ([] : List (S60))⟩ : S48), (⟨(⟨#[97]⟩ : ByteArray), 4, true, (⟨#[]⟩ : ByteArray), ([] : List (S60))⟩ : S48), (⟨(⟨#[98]⟩ : ByteArray), 2, false, (⟨#[121]⟩ : ByteArray), ([] : List (S60))⟩ : S48)] : List (S48))))) = some (r1, r2) := h
  clear h
  obtain ⟨y152, hy152⟩ : ∃ y_ : List (S48), y_ = (([(⟨(⟨#[97]⟩ : ByteArray), 1, false, (⟨#[120]⟩ : ByteArray), ([] : List (S60))⟩ : S48), (⟨(⟨#[97]⟩ : ByteArray), 4, true, (⟨#[]⟩ : ByteArray), ([] : List (S60))⟩ : S48), (⟨(⟨#[98]⟩ : ByteArray), 2, false, (⟨#[121]⟩ : ByteArray), ([] : List (S60))⟩ : S48)] : List (S48))) := ⟨_, rfl⟩
  replace H : (some (5, y152)) = some (r1, r2) := by first | (rw [hy152]; with_reducible exact H) | (have H2_ := (Option.bind_some _ _).symm.trans H; rw [hy152]; with_reducible exact H2_) | (have H2_ := (Option.bind_some _ _).symm.trans H; with_reducible exact H2_) | with_reducible exact H | (rw [hy152]; exact H) | exact H
  have Ny152 := Aside0.mk hy152
  clear hy152
  simp only [Option.some.injEq, Prod.mk.injEq] at H
  obtain ⟨rfl, rfl⟩ := H
  go_enter Try.func27, Try.ntmps27
  go_wp2_with (first | ((with_reducible refine gate_dst (N := 0) rfl ?_); refine box_event ?hg (N := 0) ?hd (cs := #[.int .i64 0, .slice none 0 0]) (t := 24) ?hr ?_; (case hd => rfl); (case hg => rfl); (case hr => first | (go_simp; done) | (go_simp; rfl)); intro gb151 hg w1 hbox hb; have n0_ := Aside0.mk (below_step (by repeat (first | (with_reducible first | exact HB.out | apply below_alloc | apply pw_below_drewN | apply below_drew1) | exact HB.out)) hb); have n1_ := Aside0.mk (hbox); have n2_ := Aside0.mk ((by rw [hg]; exact (below_size (by repeat (first | (with_reducible first | exact HB.out | apply below_alloc | apply pw_below_drewN | apply below_drew1) | exact HB.out))) : w.heap.size ≤ gb151)); have n3_ := Aside0.mk ((by rw [hg]; exact (below_size (by repeat (first | (with_reducible first | exact HB.out | apply below_alloc | apply pw_below_drewN | apply below_drew1) | exact HB.out))) : w.heap.size ≤ gb151)); clear HB; have HB := n0_; have BK151 := n1_; have GW151 := n2_; have GE151 := n3_; clear n0_ n1_ n2_ n3_; clear hb hbox hg) | ((with_reducible refine gate_dst (N := 4) rfl ?_); refine Kd.S_lit k48 _ 48 ?hg (N := 4) ?hd (xs := ([(⟨(⟨#[97]⟩ : ByteArray), 1, false, (⟨#[120]⟩ : ByteArray), ([] : List (S60))⟩ : S48), (⟨(⟨#[97]⟩ : ByteArray), 4, true, (⟨#[]⟩ : ByteArray), ([] : List (S60))⟩ : S48), (⟨(⟨#[98]⟩ : ByteArray), 2, false, (⟨#[121]⟩ : ByteArray), ([] : List (S60))⟩ : S48)] : List (S48))) (inner := [.string (⟨#[97]⟩ : ByteArray), .int .i64 1, .bool false, .string (⟨#[120]⟩ : ByteArray), .slice none 0 0, .string (⟨#[97]⟩ : ByteArray), .int .i64 4, .bool true, .string (⟨#[]⟩ : ByteArray), .slice none 0 0, .string (⟨#[98]⟩ : ByteArray), .int .i64 2, .bool false, .string (⟨#[121]⟩ : ByteArray), .slice none 0 0]) (ok := fun _ => True) (okp := fun _ => True) ?hr ?hp (fun _ hk => hk) trivial (Below.refl _ _) (Nat.le_refl _) (by simp) ?_; (case hd => rfl); (case hg => rfl); (case hr => first | (go_simp; done) | (go_simp; rfl)); (case hp => exact (Reps.c5 (show Kd.M k48 _ _ _ (⟨(⟨#[97]⟩ : ByteArray), 1, false, (⟨#[120]⟩ : ByteArray), ([] : List (S60))⟩ : S48) [.string (⟨#[97]⟩ : ByteArray), .int .i64 1, .bool false, .string (⟨#[120]⟩ : ByteArray), .slice none 0 0] from (k48_mkM _ _ _ (⟨(⟨#[97]⟩ : ByteArray), 1, false, (⟨#[120]⟩ : ByteArray), ([] : List (S60))⟩ : S48) (Kd.R_nil _ _ _ _ _))) (Reps.c5 (show Kd.M k48 _ _ _ (⟨(⟨#[97]⟩ : ByteArray), 4, true, (⟨#[]⟩ : ByteArray), ([] : List (S60))⟩ : S48) [.string (⟨#[97]⟩ : ByteArray), .int .i64 4, .bool true, .string (⟨#[]⟩ : ByteArray), .slice none 0 0] from (k48_mkM _ _ _ (⟨(⟨#[97]⟩ : ByteArray), 4, true, (⟨#[]⟩ : ByteArray), ([] : List (S60))⟩ : S48) (Kd.R_nil _ _ _ _ _))) (Reps.c5 (show Kd.M k48 _ _ _ (⟨(⟨#[98]⟩ : ByteArray), 2, false, (⟨#[121]⟩ : ByteArray), ([] : List (S60))⟩ : S48) [.string (⟨#[98]⟩ : ByteArray), .int .i64 2, .bool false, .string (⟨#[121]⟩ : ByteArray), .slice none 0 0] from (k48_mkM _ _ _ (⟨(⟨#[98]⟩ : ByteArray), 2, false, (⟨#[121]⟩ : ByteArray), ([] : List (S60))⟩ : S48) (Kd.R_nil _ _ _ _ _))) (Reps.none _ _))))); intro v153 w2 ho3 hb hg_ hnew_; clear hg_ hnew_; (first | rw [← Ny152.out] at ho3 | (simp only [Int.reduceToNat] at ho3; rw [← Ny152.out] at ho3)); have n0_ := Aside0.mk (Kd.S_lower ho3 (below_size (by repeat (first | (with_reducible first | exact HB.out | apply below_alloc | apply pw_below_drewN | apply below_drew1 | refine below_set ?_ GE151.out) | exact HB.out)))); have n1_ := Aside0.mk (blk_below (g := gb151) (o := .cells #[.int .i64 0, .slice none 0 0] 24 (0, 0)) (by (with_reducible repeat (first | refine blk_drewN ?_ _ | refine blk_drew ?_ | refine blk_alloc ?_ _)); exact BK151.out) hb); have n2_ := Aside0.mk (below_step (by repeat (first | (with_reducible first | exact HB.out | apply below_alloc | apply pw_below_drewN | apply below_drew1 | refine below_set ?_ GE151.out) | exact HB.out)) hb); clear BK151; clear HB; have HO154 := n0_; have BK151 := n1_; have HB := n2_; clear n0_ n1_ n2_; clear hb ho3; obtain ⟨Ao4, co4, eo4⟩ := Kd.S_slice HO154.out; subst eo4; have hcz5_0 : w2.cell? ⟨gb151, 0, none⟩ = some (.int .i64 0) := (blk_cell BK151.out 0).trans rfl; have hcz5_1 : w2.cell? ⟨gb151, 1, none⟩ = some (.slice none 0 0) := (blk_cell BK151.out 1).trans rfl; have hfz5_0 := blk_frozen BK151.out 0; have hfz5_1 := blk_frozen BK151.out 1))
  refine bodyPost_ret (results_cell_row rfl _ _ gb151 24 #[.int .i64 5, .slice Ao4 y152.length co4] (0, 0) _ rfl (by (with_reducible repeat (first | refine blk_drewN ?_ _ | refine blk_drew ?_ | refine blk_alloc ?_ _)); refine blk_put (cs := #[.int .i64 5, .slice none 0 0]) ?_ 1 _ rfl; (with_reducible repeat (first | refine blk_drewN ?_ _ | refine blk_drew ?_ | refine blk_alloc ?_ _)); refine blk_put (cs := #[.int .i64 0, .slice none 0 0]) ?_ 0 _ rfl; (with_reducible repeat (first | refine blk_drewN ?_ _ | refine blk_drew ?_ | refine blk_alloc ?_ _)); exact BK151.out) Try.underlying24 rfl (by kernel_rfl)) rfl ?_
  exact ⟨_, by first | rfl | (simp [errW_none, errW_some] <;> rfl) | (simp [*, errW_none, errW_some] <;> rfl), by (with_reducible repeat (first | apply Kd.S_alloc | apply Kd.S_drewN | apply Kd.S_drew)); exact Kd.S_mono (Kd.S_far (p := ⟨gb151, 1, none⟩) (Kd.S_far (p := ⟨gb151, 0, none⟩) (Kd.S_types HO154.out BK151.out (by decide)) (fun _ hk => hk.2) (.int .i64 5)) (fun _ hk => hk.2) (.slice Ao4 y152.length co4)) (fun _ hk => trivial), by repeat (first | (with_reducible first | exact HB.out | apply below_alloc | apply pw_below_drewN | apply below_drew1 | refine below_set ?_ GE151.out) | exact HB.out)⟩

-- NOT PRINTED: function 8 (cofferlaw19_first)

-- NOT PRINTED: function 29 (cofferref15_Own)

-- NOT PRINTED: function 10 (cofferref15_Copy)

end Go.Proofs.Ytbhdehkdnenigaa.PD3

set_option linter.unusedVariables false
set_option linter.unusedSimpArgs false
namespace Go.Proofs.Ytbhdehkdnenigaa
open Go.RowKit Go.Proofs.YtbhdehkdnenigaaW.PrintWords
attribute [local go_sem] Vn.val noDelta noBucket

def va1 : Vn := ⟨⟨#[97]⟩, 1, false, ⟨#[120]⟩, []⟩
def va4 : Vn := ⟨⟨#[97]⟩, 4, true, ⟨#[]⟩, []⟩
def vb2 : Vn := ⟨⟨#[98]⟩, 2, false, ⟨#[121]⟩, []⟩
def exL : List Vn := [va1, va4, vb2]
theorem example_any (w : World) : Calls Try.prog 27 #[] w fun e w' => ∃ A c, e = .returned (.agg #[.int .i64 5, .slice A 3 c]) ∧ 3 ≤ c ∧ kVn.C w' A 3 exL ∧ Below w.heap.size w w' := by
  refine (PD3.cofferlaw19_example.calls _ _ w rfl).mono ?_
  rintro e w' ⟨v, rfl, hv, hb⟩
  obtain ⟨A, c, rfl, hc, hC⟩ := Kd.S_reads hv
  exact ⟨A, c, rfl, hc, C_of48 hC, hb⟩
def flat (x : Vn) : List Value := [.string x.key, .int .i64 x.seq, .bool x.gone, .string x.data, .slice none 0 0]
theorem flat_K (w : World) (x : Vn) (h : x.pairs = []) : kVn.K w x (flat x) := by
  have := kVn_mk w x (A := none) (c := 0) (by rw [h]; exact Nat.le_refl _) (by rw [h]; exact ⟨rfl, by decide, fun h => absurd h (by decide)⟩)
  rw [h] at this
  exact this
theorem C_one (w : World) (b : Nat) (hb : b = w.heap.size) (x : Vn) (hx : x.pairs = []) : kVn.C (w.alloc (.cells #[.string x.key, .int .i64 x.seq, .bool x.gone, .string x.data, .slice none 0 0] 48)) (some ⟨b, 0, none⟩) 1 [x] := by
  subst hb
  refine ⟨rfl, by decide, fun _ => ⟨_, rfl, fun j p hj => ?_⟩⟩
  match j, hj with
  | 0, hj =>
    cases hj
    refine ⟨flat x, rfl, flat_K _ x hx, fun i u hu => ?_⟩
    match i, hu with
    | 0, hu => cases hu; simp [go_sem, add_plain, show kVn.sz = 5 from rfl]
    | 1, hu => cases hu; simp [go_sem, add_plain, show kVn.sz = 5 from rfl]
    | 2, hu => cases hu; simp [go_sem, add_plain, show kVn.sz = 5 from rfl]
    | 3, hu => cases hu; simp [go_sem, add_plain, show kVn.sz = 5 from rfl]
    | 4, hu => cases hu; simp [go_sem, add_plain, show kVn.sz = 5 from rfl]
theorem C_two (w : World) (b : Nat) (hb : b = w.heap.size) (x y : Vn) (hx : x.pairs = []) (hy : y.pairs = []) : kVn.C (w.alloc (.cells #[.string x.key, .int .i64 x.seq, .bool x.gone, .string x.data, .slice none 0 0, .string y.key, .int .i64 y.seq, .bool y.gone, .string y.data, .slice none 0 0] 48)) (some ⟨b, 0, none⟩) 2 [x, y] := by
  subst hb
  refine ⟨rfl, by decide, fun _ => ⟨_, rfl, fun j p hj => ?_⟩⟩
  match j, hj with
  | 0, hj =>
    cases hj
    refine ⟨flat x, rfl, flat_K _ x hx, fun i u hu => ?_⟩
    match i, hu with
    | 0, hu => cases hu; simp [go_sem, add_plain, show kVn.sz = 5 from rfl]
    | 1, hu => cases hu; simp [go_sem, add_plain, show kVn.sz = 5 from rfl]
    | 2, hu => cases hu; simp [go_sem, add_plain, show kVn.sz = 5 from rfl]
    | 3, hu => cases hu; simp [go_sem, add_plain, show kVn.sz = 5 from rfl]
    | 4, hu => cases hu; simp [go_sem, add_plain, show kVn.sz = 5 from rfl]
  | 1, hj =>
    cases hj
    refine ⟨flat y, rfl, flat_K _ y hy, fun i u hu => ?_⟩
    match i, hu with
    | 0, hu => cases hu; simp [go_sem, add_plain, show kVn.sz = 5 from rfl]
    | 1, hu => cases hu; simp [go_sem, add_plain, show kVn.sz = 5 from rfl]
    | 2, hu => cases hu; simp [go_sem, add_plain, show kVn.sz = 5 from rfl]
    | 3, hu => cases hu; simp [go_sem, add_plain, show kVn.sz = 5 from rfl]
    | 4, hu => cases hu; simp [go_sem, add_plain, show kVn.sz = 5 from rfl]
theorem fits_small (x : Vn) (h : x = va1 ∨ x = va4 ∨ x = vb2) : x.Fits ∧ x.pairs.length * 32 ≤ 140737488351232 := by
  rcases h with rfl | rfl | rfl
  all_goals exact ⟨⟨by decide, by decide, fun p hp => by cases hp⟩, by decide⟩
theorem room_of {l : List Vn} (h : l.length ≤ 3) (hm : ∀ x ∈ l, x = va1 ∨ x = va4 ∨ x = vb2) : Room l :=
  ⟨by omega, fun x hx => (fits_small x (hm x hx)).2, fun x hx => (fits_small x (hm x hx)).1⟩
theorem room_ex : Room exL := room_of (by decide) (fun x hx => by simpa [exL] using hx)
theorem room_u : Room [va1, vb2] := room_of (by decide) (fun x hx => by simp at hx; rcases hx with h | h <;> simp [h])
theorem room_d : Room [va4] := room_of (by decide) (fun x hx => by simp at hx; simp [hx])
theorem since_ex : since exL 3 = [va4] := by decide
theorem mrg_ex : mrg (since [va1, vb2] all64) (since [va4] all64) = exL := by
  have h1 : since [va1, vb2] all64 = [va1, vb2] := by decide
  have h2 : since [va4] all64 = [va4] := by decide
  rw [h1, h2, mrg, if_neg (of_decide_eq_false (show decide (ordE va4 va1 < 0) = false by kernel_rfl)), mrg, if_pos (of_decide_eq_true (show decide (ordE va4 vb2 < 0) = true by kernel_rfl)), mrg_end (.inr rfl)]
  rfl
theorem right_d : dRightV [va4] 5 3 = true := by kernel_rfl
theorem right_v : dRightV exL 5 6 = false := rfl
theorem since_ex3 (A : Option Addr) (c : Nat) (w : World) (hC : kVn.C w A 3 exL) (hc : 3 ≤ c) :
    Calls Try.prog 9 #[.agg #[.int .i64 5, .slice A 3 c], .int .i64 3] w fun e w' => ∃ B d, e = .returned (.tuple #[.agg #[.int .i64 3, .int .i64 5, .slice B 1 d], .int .i64 0]) ∧ 1 ≤ d ∧ kVn.C w' B 1 [va4] ∧ Below w.heap.size w w' := by
  refine (since_any exL 5 3 A c w hC hc room_ex (by decide) (by decide)).mono ?_
  rintro e w' ⟨v, rfl, hv, hb⟩
  rw [since_ex] at hv
  obtain ⟨B, d, rfl, hd, hD⟩ := Kd.R_reads hv
  exact ⟨B, d, rfl, hd, hD, hb⟩
theorem since_ex6 (A : Option Addr) (c : Nat) (w : World) :
    Calls Try.prog 9 #[.agg #[.int .i64 5, .slice A 3 c], .int .i64 6] w fun e w' => e = .returned (.tuple #[.agg #[.int .i64 0, .int .i64 0, .slice none 0 0], .int .i64 1]) ∧ Below w.heap.size w w' :=
  since_bad exL 5 6 A c w (.inr (by decide))
theorem apply_ex (A B : Option Addr) (c d : Nat) (w : World) (hC : kVn.C w A 2 [va1, vb2]) (hc : 2 ≤ c) (hD : kVn.C w B 1 [va4]) (hd : 1 ≤ d) :
    Calls Try.prog 16 #[.agg #[.int .i64 3, .slice A 2 c], .agg #[.int .i64 3, .int .i64 5, .slice B 1 d]] w fun e w' => ∃ G k, e = .returned (.tuple #[.agg #[.int .i64 5, .slice G 3 k], .int .i64 0]) ∧ 3 ≤ k ∧ kVn.C w' G 3 exL ∧ Below w.heap.size w w' := by
  refine (apply_any [va1, vb2] [va4] 3 3 5 A B c d w hC hc room_u hD hd room_d rfl (by decide) (of_decide_eq_true (by kernel_rfl))).mono ?_
  rintro e w' ⟨v, rfl, hv, hb⟩
  rw [mrg_ex] at hv
  obtain ⟨G, k, rfl, hk, hG⟩ := Kd.R_reads hv
  exact ⟨G, k, rfl, hk, hG, hb⟩
theorem apply_ex2 (A B : Option Addr) (c d : Nat) (w : World) :
    Calls Try.prog 16 #[.agg #[.int .i64 5, .slice A 3 c], .agg #[.int .i64 3, .int .i64 5, .slice B 1 d]] w fun e w' => e = .returned (.tuple #[.agg #[.int .i64 0, .slice none 0 0], .int .i64 91]) ∧ Below w.heap.size w w' :=
  apply_marker exL [va4] 5 3 5 A B c d w (by decide)
theorem same_d (A B : Option Addr) (c d : Nat) (w : World) (hC : kVn.C w A 1 [va4]) (hc : 1 ≤ c) (hD : kVn.C w B 1 [va4]) (hd : 1 ≤ d) :
    Calls Try.prog 13 #[.agg #[.int .i64 3, .int .i64 5, .slice A 1 c], .agg #[.int .i64 3, .int .i64 5, .slice B 1 d]] w fun e w' => e = .returned (.bool true) ∧ Below w.heap.size w w' := by
  refine (same19_any [va4] [va4] 3 5 3 5 A B c d w hC hD hc hd).mono ?_
  rintro e w' ⟨rfl, hb⟩
  exact ⟨by simp [sVns], hb⟩
theorem same_v (A B : Option Addr) (c d : Nat) (w : World) (hC : kVn.C w A 3 exL) (hc : 3 ≤ c) (hD : kVn.C w B 3 exL) (hd : 3 ≤ d) :
    Calls Try.prog 18 #[.agg #[.int .i64 5, .slice A 3 c], .agg #[.int .i64 5, .slice B 3 d]] w fun e w' => e = .returned (.bool true) ∧ Below w.heap.size w w' := by
  refine (same_any exL exL 5 5 A B c d w hC hD hc hd).mono ?_
  rintro e w' ⟨rfl, hb⟩
  exact ⟨by simp [sVns], hb⟩
theorem right_ex1 (A : Option Addr) (c : Nat) (w : World) (hC : kVn.C w A 1 [va4]) (hc : 1 ≤ c) :
    Calls Try.prog 15 #[.agg #[.int .i64 3, .int .i64 5, .slice A 1 c]] w fun e w' => e = .returned (.bool true) ∧ Below w.heap.size w w' := by
  refine (dRight_any [va4] 5 3 A c w hC hc room_d.fits).mono ?_
  rintro e w' ⟨rfl, hb⟩
  exact ⟨by rw [right_d], hb⟩
theorem right_ex2 (A : Option Addr) (c : Nat) (w : World) (hC : kVn.C w A 3 exL) (hc : 3 ≤ c) :
    Calls Try.prog 15 #[.agg #[.int .i64 6, .int .i64 5, .slice A 3 c]] w fun e w' => e = .returned (.bool false) ∧ Below w.heap.size w w' := by
  refine (dRight_any exL 5 6 A c w hC hc room_ex.fits).mono ?_
  rintro e w' ⟨rfl, hb⟩
  exact ⟨by rw [right_v], hb⟩
end Go.Proofs.Ytbhdehkdnenigaa

set_option linter.unusedVariables false
set_option linter.unusedSimpArgs false
namespace Go.Proofs.Ytbhdehkdnenigaa
open Go.RowKit Go.Proofs.YtbhdehkdnenigaaW.PrintWords
theorem bt {x y z : World} (a : Below x.heap.size x y) (b : Below y.heap.size y z) : Below x.heap.size x z := a.trans (b.mono a.size)
theorem u8_C (w5 : World) : kVn.C (World.alloc (World.alloc w5 (.cells #[.int .i64 0, .slice none 0 0] 24)) (.cells #[.string ⟨#[97]⟩, .int .i64 4, .bool true, .string ⟨#[]⟩, .slice none 0 0] 48)) (some ⟨w5.heap.size + 1, 0, none⟩) 1 [va4] := by
  have h := C_one (World.alloc w5 (.cells #[.int .i64 0, .slice none 0 0] 24)) (w5.heap.size + 1) (by simp [go_sem]) va4 rfl
  exact h
set_option maxRecDepth 100000 in
set_option maxHeartbeats 2000000 in
theorem first_any (w : World) : Calls Try.prog 8 #[] w fun e w' => e = .returned (.bool true) ∧ Below w.heap.size w w' := by
  go_enter Try.func8, Try.ntmps8
  go_wp2_with (first
    | (go_at_call 27; with_reducible refine (example_any _).mono ?_; rintro e w1 ⟨A1, c1, rfl, hc1, hC1, hb1⟩; have HC1 := Lib.hid hC1; clear hC1; have L1 := below1 w1 (.cells #[.int .i64 5, .slice A1 3 c1] 24))
    | (go_at_call 9; with_reducible refine (since_ex3 A1 c1 _ (Kd.C_below HC1.out L1) hc1).mono ?_; rintro e w2 ⟨A2, c2, rfl, hc2, hC2, hb2⟩; have HC2 := Lib.hid hC2; clear hC2; have L2 := below1 w2 (.cells #[.int .i64 3, .int .i64 5, .slice A2 1 c2] 27); have x10 : World.cell? (World.alloc w2 (.cells #[.int .i64 3, .int .i64 5, .slice A2 1 c2] 27)) ⟨w1.heap.size, 0, none⟩ = some (.int .i64 5) := pw_cell_below L2 (box_cell hb2 (i := 0) rfl); have x11 : World.cell? (World.alloc w2 (.cells #[.int .i64 3, .int .i64 5, .slice A2 1 c2] 27)) ⟨w1.heap.size, 1, none⟩ = some (.slice A1 3 c1) := pw_cell_below L2 (box_cell hb2 (i := 1) rfl))
    | (go_at_call 9; with_reducible refine (since_ex6 A1 c1 _).mono ?_; rintro e w3 ⟨rfl, hb3⟩; have L5 : Below w3.heap.size w3 (World.alloc (World.alloc (World.alloc w3 (.cells #[.int .i64 0, .int .i64 0, .slice none 0 0] 27)) (.cells #[.string ⟨#[97]⟩, .int .i64 1, .bool false, .string ⟨#[120]⟩, .slice none 0 0, .string ⟨#[98]⟩, .int .i64 2, .bool false, .string ⟨#[121]⟩, .slice none 0 0] 48)) (.cells #[.int .i64 3, .slice (some ⟨w3.heap.size + 1, 0, none⟩) 2 2] 24)) := below3 _ _ _ _; have U5 : Hid (kVn.C (World.alloc (World.alloc (World.alloc w3 (.cells #[.int .i64 0, .int .i64 0, .slice none 0 0] 27)) (.cells #[.string ⟨#[97]⟩, .int .i64 1, .bool false, .string ⟨#[120]⟩, .slice none 0 0, .string ⟨#[98]⟩, .int .i64 2, .bool false, .string ⟨#[121]⟩, .slice none 0 0] 48)) (.cells #[.int .i64 3, .slice (some ⟨w3.heap.size + 1, 0, none⟩) 2 2] 24)) (some ⟨w3.heap.size + 1, 0, none⟩) 2 [va1, vb2]) := Lib.hid (Kd.C_below (C_two (World.alloc w3 (.cells #[.int .i64 0, .int .i64 0, .slice none 0 0] 27)) (w3.heap.size + 1) (by simp [go_sem]) va1 vb2 rfl rfl) (below1 _ _)); have y50 : World.cell? (World.alloc (World.alloc (World.alloc w3 (.cells #[.int .i64 0, .int .i64 0, .slice none 0 0] 27)) (.cells #[.string ⟨#[97]⟩, .int .i64 1, .bool false, .string ⟨#[120]⟩, .slice none 0 0, .string ⟨#[98]⟩, .int .i64 2, .bool false, .string ⟨#[121]⟩, .slice none 0 0] 48)) (.cells #[.int .i64 3, .slice (some ⟨w3.heap.size + 1, 0, none⟩) 2 2] 24)) ⟨w2.heap.size, 0, none⟩ = some (.int .i64 3) := pw_cell_below L5 (box_cell hb3 (i := 0) rfl); have y51 : World.cell? (World.alloc (World.alloc (World.alloc w3 (.cells #[.int .i64 0, .int .i64 0, .slice none 0 0] 27)) (.cells #[.string ⟨#[97]⟩, .int .i64 1, .bool false, .string ⟨#[120]⟩, .slice none 0 0, .string ⟨#[98]⟩, .int .i64 2, .bool false, .string ⟨#[121]⟩, .slice none 0 0] 48)) (.cells #[.int .i64 3, .slice (some ⟨w3.heap.size + 1, 0, none⟩) 2 2] 24)) ⟨w2.heap.size, 1, none⟩ = some (.int .i64 5) := pw_cell_below L5 (box_cell hb3 (i := 1) rfl); have y52 : World.cell? (World.alloc (World.alloc (World.alloc w3 (.cells #[.int .i64 0, .int .i64 0, .slice none 0 0] 27)) (.cells #[.string ⟨#[97]⟩, .int .i64 1, .bool false, .string ⟨#[120]⟩, .slice none 0 0, .string ⟨#[98]⟩, .int .i64 2, .bool false, .string ⟨#[121]⟩, .slice none 0 0] 48)) (.cells #[.int .i64 3, .slice (some ⟨w3.heap.size + 1, 0, none⟩) 2 2] 24)) ⟨w2.heap.size, 2, none⟩ = some (.slice A2 1 c2) := pw_cell_below L5 (box_cell hb3 (i := 2) rfl); have x50 : World.cell? (World.alloc (World.alloc (World.alloc w3 (.cells #[.int .i64 0, .int .i64 0, .slice none 0 0] 27)) (.cells #[.string ⟨#[97]⟩, .int .i64 1, .bool false, .string ⟨#[120]⟩, .slice none 0 0, .string ⟨#[98]⟩, .int .i64 2, .bool false, .string ⟨#[121]⟩, .slice none 0 0] 48)) (.cells #[.int .i64 3, .slice (some ⟨w3.heap.size + 1, 0, none⟩) 2 2] 24)) ⟨w1.heap.size, 0, none⟩ = some (.int .i64 5) := pw_cell_below L5 (pw_cell_below hb3 x10); have x51 : World.cell? (World.alloc (World.alloc (World.alloc w3 (.cells #[.int .i64 0, .int .i64 0, .slice none 0 0] 27)) (.cells #[.string ⟨#[97]⟩, .int .i64 1, .bool false, .string ⟨#[120]⟩, .slice none 0 0, .string ⟨#[98]⟩, .int .i64 2, .bool false, .string ⟨#[121]⟩, .slice none 0 0] 48)) (.cells #[.int .i64 3, .slice (some ⟨w3.heap.size + 1, 0, none⟩) 2 2] 24)) ⟨w1.heap.size, 1, none⟩ = some (.slice A1 3 c1) := pw_cell_below L5 (pw_cell_below hb3 x11); have K25 := Lib.hid (bt (box_below hb3) L5); have K15 := Lib.hid (bt (box_below hb2) K25.out))
    | (go_at_call 16; with_reducible refine (apply_ex (some ⟨w3.heap.size + 1, 0, none⟩) A2 2 c2 _ U5.out (Nat.le_refl _) (Kd.C_below HC2.out K25.out) hc2).mono ?_; rintro e w4 ⟨A4, c4, rfl, hc4, hC4, hb4⟩; have HC4 := Lib.hid hC4; clear hC4; have L6 : Below w4.heap.size w4 (World.alloc w4 (.cells #[.int .i64 5, .slice A4 3 c4] 24)) := below1 _ _; have y60 : World.cell? (World.alloc w4 (.cells #[.int .i64 5, .slice A4 3 c4] 24)) ⟨w2.heap.size, 0, none⟩ = some (.int .i64 3) := pw_cell_below L6 (pw_cell_below hb4 y50); have y61 : World.cell? (World.alloc w4 (.cells #[.int .i64 5, .slice A4 3 c4] 24)) ⟨w2.heap.size, 1, none⟩ = some (.int .i64 5) := pw_cell_below L6 (pw_cell_below hb4 y51); have y62 : World.cell? (World.alloc w4 (.cells #[.int .i64 5, .slice A4 3 c4] 24)) ⟨w2.heap.size, 2, none⟩ = some (.slice A2 1 c2) := pw_cell_below L6 (pw_cell_below hb4 y52); have x60 : World.cell? (World.alloc w4 (.cells #[.int .i64 5, .slice A4 3 c4] 24)) ⟨w1.heap.size, 0, none⟩ = some (.int .i64 5) := pw_cell_below L6 (pw_cell_below hb4 x50); have x61 : World.cell? (World.alloc w4 (.cells #[.int .i64 5, .slice A4 3 c4] 24)) ⟨w1.heap.size, 1, none⟩ = some (.slice A1 3 c1) := pw_cell_below L6 (pw_cell_below hb4 x51); have K26 := Lib.hid (bt (bt K25.out hb4) L6); have K16 := Lib.hid (bt (bt K15.out hb4) L6))
    | (go_at_call 16; with_reducible refine (apply_ex2 A1 A2 c1 c2 _).mono ?_; rintro e w5 ⟨rfl, hb5⟩; have L8 : Below w5.heap.size w5 (World.alloc (World.alloc w5 (.cells #[.int .i64 0, .slice none 0 0] 24)) (.cells #[.string ⟨#[97]⟩, .int .i64 4, .bool true, .string ⟨#[]⟩, .slice none 0 0] 48)) := below2 _ _ _; have L7 : Below w5.heap.size w5 (World.alloc w5 (.cells #[.int .i64 0, .slice none 0 0] 24)) := below1 _ _; have U8 : Hid (kVn.C (World.alloc (World.alloc w5 (.cells #[.int .i64 0, .slice none 0 0] 24)) (.cells #[.string ⟨#[97]⟩, .int .i64 4, .bool true, .string ⟨#[]⟩, .slice none 0 0] 48)) (some ⟨w5.heap.size + 1, 0, none⟩) 1 [va4]) := Lib.hid (u8_C w5); have y70 : World.cell? (World.alloc w5 (.cells #[.int .i64 0, .slice none 0 0] 24)) ⟨w2.heap.size, 0, none⟩ = some (.int .i64 3) := pw_cell_below L7 (pw_cell_below hb5 y60); have y71 : World.cell? (World.alloc w5 (.cells #[.int .i64 0, .slice none 0 0] 24)) ⟨w2.heap.size, 1, none⟩ = some (.int .i64 5) := pw_cell_below L7 (pw_cell_below hb5 y61); have y72 : World.cell? (World.alloc w5 (.cells #[.int .i64 0, .slice none 0 0] 24)) ⟨w2.heap.size, 2, none⟩ = some (.slice A2 1 c2) := pw_cell_below L7 (pw_cell_below hb5 y62); have y80 : World.cell? (World.alloc (World.alloc w5 (.cells #[.int .i64 0, .slice none 0 0] 24)) (.cells #[.string ⟨#[97]⟩, .int .i64 4, .bool true, .string ⟨#[]⟩, .slice none 0 0] 48)) ⟨w2.heap.size, 0, none⟩ = some (.int .i64 3) := pw_cell_below L8 (pw_cell_below hb5 y60); have y81 : World.cell? (World.alloc (World.alloc w5 (.cells #[.int .i64 0, .slice none 0 0] 24)) (.cells #[.string ⟨#[97]⟩, .int .i64 4, .bool true, .string ⟨#[]⟩, .slice none 0 0] 48)) ⟨w2.heap.size, 1, none⟩ = some (.int .i64 5) := pw_cell_below L8 (pw_cell_below hb5 y61); have y82 : World.cell? (World.alloc (World.alloc w5 (.cells #[.int .i64 0, .slice none 0 0] 24)) (.cells #[.string ⟨#[97]⟩, .int .i64 4, .bool true, .string ⟨#[]⟩, .slice none 0 0] 48)) ⟨w2.heap.size, 2, none⟩ = some (.slice A2 1 c2) := pw_cell_below L8 (pw_cell_below hb5 y62); have x80 : World.cell? (World.alloc (World.alloc w5 (.cells #[.int .i64 0, .slice none 0 0] 24)) (.cells #[.string ⟨#[97]⟩, .int .i64 4, .bool true, .string ⟨#[]⟩, .slice none 0 0] 48)) ⟨w1.heap.size, 0, none⟩ = some (.int .i64 5) := pw_cell_below L8 (pw_cell_below hb5 x60); have x81 : World.cell? (World.alloc (World.alloc w5 (.cells #[.int .i64 0, .slice none 0 0] 24)) (.cells #[.string ⟨#[97]⟩, .int .i64 4, .bool true, .string ⟨#[]⟩, .slice none 0 0] 48)) ⟨w1.heap.size, 1, none⟩ = some (.slice A1 3 c1) := pw_cell_below L8 (pw_cell_below hb5 x61); have z80 : World.cell? (World.alloc (World.alloc w5 (.cells #[.int .i64 0, .slice none 0 0] 24)) (.cells #[.string ⟨#[97]⟩, .int .i64 4, .bool true, .string ⟨#[]⟩, .slice none 0 0] 48)) ⟨w4.heap.size, 0, none⟩ = some (.int .i64 5) := pw_cell_below L8 (box_cell hb5 (i := 0) rfl); have z81 : World.cell? (World.alloc (World.alloc w5 (.cells #[.int .i64 0, .slice none 0 0] 24)) (.cells #[.string ⟨#[97]⟩, .int .i64 4, .bool true, .string ⟨#[]⟩, .slice none 0 0] 48)) ⟨w4.heap.size, 1, none⟩ = some (.slice A4 3 c4) := pw_cell_below L8 (box_cell hb5 (i := 1) rfl); have K28 := Lib.hid (bt (bt K26.out hb5) L8); have K18 := Lib.hid (bt (bt K16.out hb5) L8); have K48 := Lib.hid (bt (box_below hb5) L8))
    | (go_at_call 13; with_reducible refine (same_d A2 (some ⟨w5.heap.size + 1, 0, none⟩) c2 1 _ (Kd.C_below HC2.out K28.out) hc2 U8.out (Nat.le_refl _)).mono ?_; rintro e w6 ⟨rfl, hb6⟩; have y90 : World.cell? w6 ⟨w2.heap.size, 0, none⟩ = some (.int .i64 3) := pw_cell_below hb6 y80; have y91 : World.cell? w6 ⟨w2.heap.size, 1, none⟩ = some (.int .i64 5) := pw_cell_below hb6 y81; have y92 : World.cell? w6 ⟨w2.heap.size, 2, none⟩ = some (.slice A2 1 c2) := pw_cell_below hb6 y82; have x90 : World.cell? w6 ⟨w1.heap.size, 0, none⟩ = some (.int .i64 5) := pw_cell_below hb6 x80; have x91 : World.cell? w6 ⟨w1.heap.size, 1, none⟩ = some (.slice A1 3 c1) := pw_cell_below hb6 x81; have z90 : World.cell? w6 ⟨w4.heap.size, 0, none⟩ = some (.int .i64 5) := pw_cell_below hb6 z80; have z91 : World.cell? w6 ⟨w4.heap.size, 1, none⟩ = some (.slice A4 3 c4) := pw_cell_below hb6 z81; have K29 := Lib.hid (bt K28.out hb6); have K19 := Lib.hid (bt K18.out hb6); have K49 := Lib.hid (bt K48.out hb6))
    | (go_at_call 18; with_reducible refine (same_v A4 A1 c4 c1 _ (Kd.C_below HC4.out K49.out) hc4 (Kd.C_below HC1.out K19.out) hc1).mono ?_; rintro e w7 ⟨rfl, hb7⟩; have ya0 : World.cell? w7 ⟨w2.heap.size, 0, none⟩ = some (.int .i64 3) := pw_cell_below hb7 y90; have ya1 : World.cell? w7 ⟨w2.heap.size, 1, none⟩ = some (.int .i64 5) := pw_cell_below hb7 y91; have ya2 : World.cell? w7 ⟨w2.heap.size, 2, none⟩ = some (.slice A2 1 c2) := pw_cell_below hb7 y92; have xa0 : World.cell? w7 ⟨w1.heap.size, 0, none⟩ = some (.int .i64 5) := pw_cell_below hb7 x90; have xa1 : World.cell? w7 ⟨w1.heap.size, 1, none⟩ = some (.slice A1 3 c1) := pw_cell_below hb7 x91; have K2a := Lib.hid (bt K29.out hb7); have K1a := Lib.hid (bt K19.out hb7))
    | (go_at_call 15; with_reducible refine (right_ex1 A2 c2 _ (Kd.C_below HC2.out K2a.out) hc2).mono ?_; rintro e w8 ⟨rfl, hb8⟩; have xb0 : World.cell? w8 ⟨w1.heap.size, 0, none⟩ = some (.int .i64 5) := pw_cell_below hb8 xa0; have xb1 : World.cell? w8 ⟨w1.heap.size, 1, none⟩ = some (.slice A1 3 c1) := pw_cell_below hb8 xa1; have K1b := Lib.hid (bt K1a.out hb8))
    | (go_at_call 15; with_reducible refine (right_ex2 A1 c1 _ (Kd.C_below HC1.out K1b.out) hc1).mono ?_; rintro e w9 ⟨rfl, hb9⟩; have KF := Lib.hid (hb1.trans ((bt K1b.out hb9).mono hb1.size))))
  go_ret
  exact ⟨rfl, KF.out⟩
end Go.Proofs.Ytbhdehkdnenigaa

set_option linter.unusedVariables false
set_option linter.unusedSimpArgs false
namespace Go.Proofs.Ytbhdehkdnenigaa
open Go.RowKit Go.Proofs.YtbhdehkdnenigaaW.PrintWords PDeltaLaid

theorem R_map {α β : Type} {d : Kd α} {d' : Kd β} (f : α → β) (hsz : d.sz = d'.sz) (h : ∀ w base ok x cs, d.M w base ok x cs → d'.M w base ok (f x) cs) {e : Nat} {w : World} {base : Nat} {ok : Nat → Prop} {v : Value} {xs : List α} (hr : d.R e w base ok v xs) : d'.R e w base ok v (xs.map f) := by
  obtain ⟨h1, inner, h2, h3⟩ := hr
  refine ⟨h1, inner, ?_, ?_⟩
  · rw [List.length_map, ← hsz]; exact h2
  · refine ⟨by rw [h3.1, List.length_map, hsz], fun j p hp => ?_⟩
    rw [List.getElem?_map] at hp
    obtain ⟨x, hx, rfl⟩ := Option.map_eq_some_iff.1 hp
    rw [← hsz]
    exact h _ _ _ _ _ (h3.2 j x hx)
theorem R_to60 {e : Nat} {w : World} {base : Nat} {ok : Nat → Prop} {v : Value} {xs : List Pr} (h : kPr.R e w base ok v xs) : Kd.R k60 e w base ok v (xs.map to60) := R_map to60 rfl (fun w base ok x cs hk => by rw [kPr_openM hk]; exact k60_mkM _ _ _ _) h
theorem R_to48 {e : Nat} {w : World} {base : Nat} {ok : Nat → Prop} {v : Value} {xs : List Vn} (h : kVn.R e w base ok v xs) : Kd.R k48 e w base ok v (xs.map to48) := R_map to48 rfl (fun w base ok x cs hk => by
  obtain ⟨v, rfl, hv⟩ := kVn_openM hk
  exact k48_mkM _ _ _ _ (R_to60 hv)) h
theorem to_of60 (l : List S60) : (l.map of60).map to60 = l := by rw [List.map_map]; exact List.map_id' l
theorem to_of48 (x : S48) : to48 (of48 x) = x := by
  show (⟨x.f0, x.f1, x.f2, x.f3, (x.f4.map of60).map to60⟩ : S48) = x
  rw [to_of60]
theorem to_of48s (l : List S48) : (l.map of48).map to48 = l := by rw [List.map_map]; exact (List.map_congr_left (fun x _ => to_of48 x)).trans (List.map_id' l)
def roomB (l : List Vn) : Bool := decide (l.length * 72 ≤ 140737488351232) && l.all (fun x => decide (x.pairs.length * 32 ≤ 140737488351232)) && l.all fitsB
theorem roomB_iff (l : List Vn) : roomB l = true ↔ Room l := by
  simp only [roomB, Bool.and_eq_true, List.all_eq_true, decide_eq_true_eq, fitsB_iff]
  exact ⟨fun h => ⟨h.1.1, h.1.2, h.2⟩, fun h => ⟨⟨h.len, h.pairs⟩, h.fits⟩⟩
namespace PD4
def cofferlaw19_first.f : Option Bool := some true
theorem cofferlaw19_first.calls (r : Bool) (w : World) (h : cofferlaw19_first.f = some r) :
    Calls Try.prog 8 #[] w fun e w' => e = .returned (.bool r) ∧ Below w.heap.size w w' := by
  cases h
  exact first_any w
def cofferref15_Copy.f (a0_0 : Int) (l0_1 : List (S48)) : Option (Int × (List (S48))) := if roomB (l0_1.map of48) = true then some (a0_0, l0_1) else none
theorem cofferref15_Copy.calls (a0_0 : Int) (A0_1 : Option Addr) (c0_1 : Nat) (l0_1 : List (S48)) (r1 : Int) (r2 : List (S48)) (w : World) (hr0_1 : Kd.C k48 w A0_1 l0_1.length l0_1) (hc0_1 : l0_1.length ≤ c0_1) (h : cofferref15_Copy.f a0_0 l0_1 = some (r1, r2)) :
    Calls Try.prog 10 #[.agg #[.int .i64 a0_0, .slice A0_1 l0_1.length c0_1]] w fun e w' => ∃ v1_ : Value, e = .returned (.agg #[.int .i64 r1, v1_]) ∧ Kd.R k48 48 w' w.heap.size (fun _ => True) v1_ r2 ∧ Below w.heap.size w w' := by
  unfold cofferref15_Copy.f at h
  split at h
  · next hf =>
    cases h
    have := copy_any (l0_1.map of48) a0_0 A0_1 c0_1 w (by simpa using C_of48 hr0_1) (by simpa using hc0_1) ((roomB_iff _).1 hf)
    rw [List.length_map] at this
    refine this.mono ?_
    rintro e w' ⟨v, rfl, hv, hb⟩
    have hv2 := R_to48 hv
    rw [to_of48s] at hv2
    exact ⟨v, rfl, hv2, hb⟩
  · cases h
def cofferref15_Right.f (a0_0 : Int) (l0_1 : List (S48)) : Option (Bool) := if (l0_1.map of48).all fitsB = true then some (rightV (l0_1.map of48) a0_0) else none
theorem cofferref15_Right.calls (a0_0 : Int) (A0_1 : Option Addr) (c0_1 : Nat) (l0_1 : List (S48)) (r : Bool) (w : World) (hr0_1 : Kd.C k48 w A0_1 l0_1.length l0_1) (hc0_1 : l0_1.length ≤ c0_1) (h : cofferref15_Right.f a0_0 l0_1 = some r) :
    Calls Try.prog 12 #[.agg #[.int .i64 a0_0, .slice A0_1 l0_1.length c0_1]] w fun e w' => e = .returned (.bool r) ∧ Below w.heap.size w w' := by
  unfold cofferref15_Right.f at h
  split at h
  · next hf =>
    cases h
    have := refRight_any (l0_1.map of48) a0_0 A0_1 c0_1 w (by simpa using C_of48 hr0_1) (by simpa using hc0_1) (fun x hx => (fitsB_iff x).1 (List.all_eq_true.1 hf x hx))
    simpa using this
  · cases h
def cofferref19_Right.f (a0_0 : Int) (a0_1 : Int) (l0_2 : List (S48)) : Option (Bool) := if (l0_2.map of48).all fitsB = true then some (rightD (l0_2.map of48) a0_1 a0_0) else none
theorem cofferref19_Right.calls (a0_0 : Int) (a0_1 : Int) (A0_2 : Option Addr) (c0_2 : Nat) (l0_2 : List (S48)) (r : Bool) (w : World) (hr0_2 : Kd.C k48 w A0_2 l0_2.length l0_2) (hc0_2 : l0_2.length ≤ c0_2) (h : cofferref19_Right.f a0_0 a0_1 l0_2 = some r) :
    Calls Try.prog 14 #[.agg #[.int .i64 a0_0, .int .i64 a0_1, .slice A0_2 l0_2.length c0_2]] w fun e w' => e = .returned (.bool r) ∧ Below w.heap.size w w' := by
  unfold cofferref19_Right.f at h
  split at h
  · next hf =>
    cases h
    have := right19_any (l0_2.map of48) a0_1 a0_0 A0_2 c0_2 w (by simpa using C_of48 hr0_2) (by simpa using hc0_2) (fun x hx => (fitsB_iff x).1 (List.all_eq_true.1 hf x hx))
    simpa using this
  · cases h
def delta_Right.f (a0_0 : Int) (a0_1 : Int) (l0_2 : List (S48)) : Option (Bool) := if (l0_2.map of48).all fitsB = true then some (dRightV (l0_2.map of48) a0_1 a0_0) else none
theorem delta_Right.calls (a0_0 : Int) (a0_1 : Int) (A0_2 : Option Addr) (c0_2 : Nat) (l0_2 : List (S48)) (r : Bool) (w : World) (hr0_2 : Kd.C k48 w A0_2 l0_2.length l0_2) (hc0_2 : l0_2.length ≤ c0_2) (h : delta_Right.f a0_0 a0_1 l0_2 = some r) :
    Calls Try.prog 15 #[.agg #[.int .i64 a0_0, .int .i64 a0_1, .slice A0_2 l0_2.length c0_2]] w fun e w' => e = .returned (.bool r) ∧ Below w.heap.size w w' := by
  unfold delta_Right.f at h
  split at h
  · next hf =>
    cases h
    have := dRight_any (l0_2.map of48) a0_1 a0_0 A0_2 c0_2 w (by simpa using C_of48 hr0_2) (by simpa using hc0_2) (fun x hx => (fitsB_iff x).1 (List.all_eq_true.1 hf x hx))
    simpa using this
  · cases h
def delta_Apply.f (a0_0 : Int) (l0_1 : List (S48)) (a1_0 : Int) (a1_1 : Int) (l1_2 : List (S48)) : Option (Int × (List (S48)) × Int) :=
  if roomB (l0_1.map of48) = true ∧ roomB (l1_2.map of48) = true then
    if a1_0 = a0_0 then
      if l0_1.length + l1_2.length ≤ 256 then
        if wrap64 (wrap64 (bsize (l0_1.map of48)) + wrap64 (bsize (l1_2.map of48))) ≤ 65536 then some (a1_1, (mrg (since (l0_1.map of48) all64) (since (l1_2.map of48) all64)).map to48, 0)
        else some (0, [], 76)
      else some (0, [], 75)
    else some (0, [], 91)
  else none
theorem delta_Apply.calls (a0_0 : Int) (A0_1 : Option Addr) (c0_1 : Nat) (l0_1 : List (S48)) (a1_0 : Int) (a1_1 : Int) (A1_2 : Option Addr) (c1_2 : Nat) (l1_2 : List (S48)) (r1 : Int) (r2 : List (S48)) (r3 : Int) (w : World) (hr0_1 : Kd.C k48 w A0_1 l0_1.length l0_1) (hc0_1 : l0_1.length ≤ c0_1) (hr1_2 : Kd.C k48 w A1_2 l1_2.length l1_2) (hc1_2 : l1_2.length ≤ c1_2) (h : delta_Apply.f a0_0 l0_1 a1_0 a1_1 l1_2 = some (r1, r2, r3)) :
    Calls Try.prog 16 #[.agg #[.int .i64 a0_0, .slice A0_1 l0_1.length c0_1], .agg #[.int .i64 a1_0, .int .i64 a1_1, .slice A1_2 l1_2.length c1_2]] w fun e w' => ∃ v1_ : Value, e = .returned (.tuple #[.agg #[.int .i64 r1, v1_], .int .i64 r3]) ∧ Kd.R k48 48 w' w.heap.size (fun _ => True) v1_ r2 ∧ Below w.heap.size w w' := by
  unfold delta_Apply.f at h
  have h0 : (l0_1.map of48).length = l0_1.length := List.length_map ..
  have h1 : (l1_2.map of48).length = l1_2.length := List.length_map ..
  have C0 : kVn.C w A0_1 (l0_1.map of48).length (l0_1.map of48) := by simpa using C_of48 hr0_1
  have C1 : kVn.C w A1_2 (l1_2.map of48).length (l1_2.map of48) := by simpa using C_of48 hr1_2
  split at h
  · next hf =>
    have Q0 := (roomB_iff _).1 hf.1
    have Q1 := (roomB_iff _).1 hf.2
    rw [← h0, ← h1]
    split at h
    · next hs =>
      subst hs
      split at h
      · next h2 =>
        split at h
        · next h3 =>
          cases h
          refine (apply_any _ _ a1_0 a1_0 a1_1 A0_1 A1_2 c0_1 c1_2 w C0 (by omega) Q0 C1 (by omega) Q1 rfl (by omega) h3).mono ?_
          rintro e w' ⟨v, rfl, hv, hb⟩
          exact ⟨v, rfl, R_to48 hv, hb⟩
        · next h3 =>
          cases h
          refine (apply_bytes _ _ a1_0 a1_0 a1_1 A0_1 A1_2 c0_1 c1_2 w C0 (by omega) Q0 C1 (by omega) Q1 rfl (by omega) h3).mono ?_
          rintro e w' ⟨rfl, hb⟩
          exact ⟨_, rfl, Kd.R_nil _ _ _ _ _, hb⟩
      · next h2 =>
        cases h
        refine (apply_count _ _ a1_0 a1_0 a1_1 A0_1 A1_2 c0_1 c1_2 w (by have := Q0.len; omega) Q0.len Q1.len rfl (by omega)).mono ?_
        rintro e w' ⟨rfl, hb⟩
        exact ⟨_, rfl, Kd.R_nil _ _ _ _ _, hb⟩
    · next hs =>
      cases h
      refine (apply_marker _ _ a0_0 a1_0 a1_1 A0_1 A1_2 c0_1 c1_2 w hs).mono ?_
      rintro e w' ⟨rfl, hb⟩
      exact ⟨_, rfl, Kd.R_nil _ _ _ _ _, hb⟩
  · cases h
def cofferref15_Bytes.f (a0_0 : Int) (l0_1 : List (S48)) : Option (Int) := if (l0_1.map of48).all fitsB = true then some (wrap64 (bsize (l0_1.map of48))) else none
theorem cofferref15_Bytes.calls (a0_0 : Int) (A0_1 : Option Addr) (c0_1 : Nat) (l0_1 : List (S48)) (r : Int) (w : World) (hr0_1 : Kd.C k48 w A0_1 l0_1.length l0_1) (hc0_1 : l0_1.length ≤ c0_1) (h : cofferref15_Bytes.f a0_0 l0_1 = some r) :
    Calls Try.prog 21 #[.agg #[.int .i64 a0_0, .slice A0_1 l0_1.length c0_1]] w fun e w' => e = .returned (.int .i64 r) ∧ Below w.heap.size w w' := by
  unfold cofferref15_Bytes.f at h
  split at h
  · next hf =>
    cases h
    have := refBytes_any (l0_1.map of48) a0_0 A0_1 c0_1 w (by simpa using C_of48 hr0_1) (by simpa using hc0_1) (fun x hx => (fitsB_iff x).1 (List.all_eq_true.1 hf x hx))
    simpa using this
  · cases h
def cofferref15_Own.f (a0_0 : ByteArray) (a0_1 : Int) (a0_2 : Bool) (a0_3 : ByteArray) (l0_4 : List (S60)) : Option (ByteArray × Int × Bool × ByteArray × (List (S60))) := if l0_4.length * 32 ≤ 140737488355328 then some (a0_0, a0_1, a0_2, a0_3, l0_4) else none
theorem cofferref15_Own.calls (a0_0 : ByteArray) (a0_1 : Int) (a0_2 : Bool) (a0_3 : ByteArray) (A0_4 : Option Addr) (c0_4 : Nat) (l0_4 : List (S60)) (r1 : ByteArray) (r2 : Int) (r3 : Bool) (r4 : ByteArray) (r5 : List (S60)) (w : World) (hr0_4 : Kd.C k60 w A0_4 l0_4.length l0_4) (hc0_4 : l0_4.length ≤ c0_4) (h : cofferref15_Own.f a0_0 a0_1 a0_2 a0_3 l0_4 = some (r1, r2, r3, r4, r5)) :
    Calls Try.prog 29 #[.agg #[.string a0_0, .int .i64 a0_1, .bool a0_2, .string a0_3, .slice A0_4 l0_4.length c0_4]] w fun e w' => ∃ v4_ : Value, e = .returned (.agg #[.string r1, .int .i64 r2, .bool r3, .string r4, v4_]) ∧ Kd.R k60 60 w' w.heap.size (fun _ => True) v4_ r5 ∧ Below w.heap.size w w' := by
  unfold cofferref15_Own.f at h
  split at h
  · next hf =>
    cases h
    have := own_any (of48 ⟨a0_0, a0_1, a0_2, a0_3, l0_4⟩) A0_4 c0_4 w (by simpa [of48] using C_of60 hr0_4) (by simpa [of48] using hc0_4) (by simpa [of48] using hf)
    simp only [of48, Vn.val, List.length_map] at this
    refine this.mono ?_
    rintro e w' ⟨v, rfl, hv, hb⟩
    have hv2 := R_to60 hv
    rw [to_of60] at hv2
    exact ⟨v, rfl, hv2, hb⟩
  · cases h
def cofferref19_ahead.f (a0_0 : ByteArray) (a0_1 : Int) (a0_2 : Bool) (a0_3 : ByteArray) (l0_4 : List (S60)) (a1_0 : ByteArray) (a1_1 : Int) (a1_2 : Bool) (a1_3 : ByteArray) (l1_4 : List (S60)) : Option (Bool) := some (va (of48 ⟨a0_0, a0_1, a0_2, a0_3, l0_4⟩) (of48 ⟨a1_0, a1_1, a1_2, a1_3, l1_4⟩))
theorem cofferref19_ahead.calls (a0_0 : ByteArray) (a0_1 : Int) (a0_2 : Bool) (a0_3 : ByteArray) (A0_4 : Option Addr) (c0_4 : Nat) (l0_4 : List (S60)) (a1_0 : ByteArray) (a1_1 : Int) (a1_2 : Bool) (a1_3 : ByteArray) (A1_4 : Option Addr) (c1_4 : Nat) (l1_4 : List (S60)) (r : Bool) (w : World) (hr0_4 : Kd.C k60 w A0_4 l0_4.length l0_4) (hc0_4 : l0_4.length ≤ c0_4) (hr1_4 : Kd.C k60 w A1_4 l1_4.length l1_4) (hc1_4 : l1_4.length ≤ c1_4) (h : cofferref19_ahead.f a0_0 a0_1 a0_2 a0_3 l0_4 a1_0 a1_1 a1_2 a1_3 l1_4 = some r) :
    Calls Try.prog 38 #[.agg #[.string a0_0, .int .i64 a0_1, .bool a0_2, .string a0_3, .slice A0_4 l0_4.length c0_4], .agg #[.string a1_0, .int .i64 a1_1, .bool a1_2, .string a1_3, .slice A1_4 l1_4.length c1_4]] w fun e w' => e = .returned (.bool r) ∧ Below w.heap.size w w' := by
  cases h
  have := ahead19_any (of48 ⟨a0_0, a0_1, a0_2, a0_3, l0_4⟩) (of48 ⟨a1_0, a1_1, a1_2, a1_3, l1_4⟩) A0_4 A1_4 c0_4 c1_4 w
  simpa [of48, Vn.val] using this
def cofferref15_Same.f (a0_0 : Int) (l0_1 : List (S48)) (a1_0 : Int) (l1_1 : List (S48)) : Option (Bool) := some (a0_0 == a1_0 && sVns (l0_1.map of48) (l1_1.map of48))
theorem cofferref15_Same.calls (a0_0 : Int) (A0_1 : Option Addr) (c0_1 : Nat) (l0_1 : List (S48)) (a1_0 : Int) (A1_1 : Option Addr) (c1_1 : Nat) (l1_1 : List (S48)) (r : Bool) (w : World) (hr0_1 : Kd.C k48 w A0_1 l0_1.length l0_1) (hc0_1 : l0_1.length ≤ c0_1) (hr1_1 : Kd.C k48 w A1_1 l1_1.length l1_1) (hc1_1 : l1_1.length ≤ c1_1) (h : cofferref15_Same.f a0_0 l0_1 a1_0 l1_1 = some r) :
    Calls Try.prog 18 #[.agg #[.int .i64 a0_0, .slice A0_1 l0_1.length c0_1], .agg #[.int .i64 a1_0, .slice A1_1 l1_1.length c1_1]] w fun e w' => e = .returned (.bool r) ∧ Below w.heap.size w w' := by
  cases h
  have := same_any (l0_1.map of48) (l1_1.map of48) a0_0 a1_0 A0_1 A1_1 c0_1 c1_1 w (by simpa using C_of48 hr0_1) (by simpa using C_of48 hr1_1) (by simpa using hc0_1) (by simpa using hc1_1)
  simpa using this
end PD4
end Go.Proofs.Ytbhdehkdnenigaa

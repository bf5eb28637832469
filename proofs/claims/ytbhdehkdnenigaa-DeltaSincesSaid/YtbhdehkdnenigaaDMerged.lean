/- Walk: delta.merged: two sorted lists as one. -/
import Derived.Test.YtbhdehkdnenigaaDOr
import Derived.Test.YtbhdehkdnenigaaDAdded
import Derived.Test.YtbhdehkdnenigaaWLast
import Derived.Test.YtbhdehkdnenigaaWTab
set_option linter.unusedVariables false
set_option linter.unusedSimpArgs false
namespace Go.Proofs.Ytbhdehkdnenigaa
open Go.RowKit Go.Proofs.YtbhdehkdnenigaaW.PrintWords Go.Proofs.YtbhdehkdnenigaaW.PrintLast
attribute [local go_sem] Vn.val

def mG.T3 : Bool × List (List Nat × List Nat) := (true, [([], []), ([], []), ([1], [1]), ([2], [2]), ([], []), ([4], [4]), ([5], [5]), ([0, 3, 6], [0, 3, 6]), ([7], [7])])
def mG.B3 : List Nat := [0, 0, 2, 6, 0, 16, 48, 127, 255]
theorem mG.tab3 : rtab .any (opsOf Try.f36 3) = mG.T3 := by kernel_rfl
theorem mG.bits3 : waitsOk mG.T3.2 mG.B3 = true := by kernel_rfl
def mG.T4 : Bool × List (List Nat × List Nat) := (true, [([], []), ([], []), ([1], [1]), ([2], [2]), ([3], [3]), ([0, 4], [0, 4]), ([], []), ([6], [6]), ([5, 5, 0, 1, 2, 3, 4, 5], [0, 5]), ([7, 8, 0, 1, 2, 3, 4, 5, 6, 7, 8], [1, 6, 7])])
def mG.B4 : List Nat := [0, 0, 2, 6, 14, 31, 0, 64, 63, 511]
theorem mG.tab4 : rtab .any (opsOf Try.f36 4) = mG.T4 := by kernel_rfl
theorem mG.bits4 : waitsOk mG.T4.2 mG.B4 = true := by kernel_rfl
def mG.T5 : Bool × List (List Nat × List Nat) := (true, [([], []), ([], []), ([1], [1]), ([2], [2]), ([3], [3]), ([0, 4], [0, 4]), ([], []), ([6], [6]), ([5, 5, 0, 1, 2, 3, 4, 5], [0, 5]), ([7, 8, 0, 1, 2, 3, 4, 5, 6, 7, 8], [1, 6, 7])])
def mG.B5 : List Nat := [0, 0, 2, 6, 14, 31, 0, 64, 63, 511]
theorem mG.tab5 : rtab .any (opsOf Try.f36 5) = mG.T5 := by kernel_rfl
theorem mG.bits5 : waitsOk mG.T5.2 mG.B5 = true := by kernel_rfl
theorem goesv_ {P : Program} {ops : Array Oper} {Q : Exit → Act → World → Prop} {oi : Oper} {N : Option Tmp} {a : Act} {w : World} {K : Act → World → Prop} {f : FuncId} {fn : Func} {t : Operand} {os : Array Operand} {ts : Array TypeId} (hf : P.funcs[f]? = some fn) (hname : (fn.name == "runtime.NumGoroutine") = false) (hb : fn.body.isSome = true) (args : Array Value)
    (hw : Region.wanted oi (yielded ops a.tmps) = true) (hN : oi.dst = N) (hop : oi.op = .call { callee := .value t, args := os, argTypes := ts }) (ht : a.eval t = .func (.func f) #[] #[]) (hargs : os.map a.eval = args)
    (h : Calls P f args w fun e w' => ∃ v, e = .returned v ∧ K (a.put N v) w') : if Region.wanted oi (yielded ops a.tmps) = true then Oper.wp P oi a w K Q else K (a.put N undef) w := by
  refine call_ f args hw hN ?_ h
  have he := enters_ hf hname hb args w
  have hargs2 : os.map (fun x => a.eval x) = args := hargs
  unfold execOp
  simp [hop, resolve, Deferred.ofValue, invoke, hargs, hargs2, he, ht]
/-- a row whose elements were made: what stands inside it are rows of the call's own, in elder blocks -/
def Made (w : World) (b0 : Nat) (top : Nat) (A : Option Addr) (xs : List Vn) : Prop := ReadsRow (kVn.M w b0 (fun k => k < top)) 5 w A xs.length xs ∧ (0 < xs.length → ∀ ad, A = some ad → ad.block < top)
theorem Made.first {w : World} {b0 top : Nat} {A : Option Addr} {xs : List Vn} (h : Made w b0 top A xs) (hn : 0 < xs.length) :
    ∃ ad A4 c4, A = some ad ∧ w.cell? ad = some (.string (rdV xs 0).key) ∧ w.cell? ⟨ad.block, ad.off + 1, none⟩ = some (.int .i64 (rdV xs 0).seq) ∧ w.cell? ⟨ad.block, ad.off + 2, none⟩ = some (.bool (rdV xs 0).gone) ∧ w.cell? ⟨ad.block, ad.off + 3, none⟩ = some (.string (rdV xs 0).data) ∧ w.cell? ⟨ad.block, ad.off + 4, none⟩ = some (.slice A4 (rdV xs 0).pairs.length c4) ∧
      kVn.M w b0 (fun k => k < top) (rdV xs 0) [.string (rdV xs 0).key, .int .i64 (rdV xs 0).seq, .bool (rdV xs 0).gone, .string (rdV xs 0).data, .slice A4 (rdV xs 0).pairs.length c4] := by
  obtain ⟨ad, rfl, hc⟩ := h.1.2.2 hn
  obtain ⟨cs, h1, h2, h3⟩ := hc 0 _ (List.getElem?_eq_getElem hn)
  rw [rdV_at hn] at h2
  obtain ⟨v, rfl, hv⟩ := kVn_openM h2
  obtain ⟨A4, c4, rfl⟩ := Kd.R_slice hv
  have e0 : ad.add (0 * 5) = ad := by simp [Addr.add]
  have g0 : w.cell? (ad.add (0 * 5)) = some (.string (rdV xs 0).key) := h3 0 _ rfl
  have g1 : w.cell? ⟨(ad.add (0 * 5)).block, (ad.add (0 * 5)).off + 1, none⟩ = some (.int .i64 (rdV xs 0).seq) := by rw [← add_field _ _ 1 (by omega)]; exact h3 1 _ rfl
  have g2 : w.cell? ⟨(ad.add (0 * 5)).block, (ad.add (0 * 5)).off + 2, none⟩ = some (.bool (rdV xs 0).gone) := by rw [← add_field _ _ 2 (by omega)]; exact h3 2 _ rfl
  have g3 : w.cell? ⟨(ad.add (0 * 5)).block, (ad.add (0 * 5)).off + 3, none⟩ = some (.string (rdV xs 0).data) := by rw [← add_field _ _ 3 (by omega)]; exact h3 3 _ rfl
  have g4 : w.cell? ⟨(ad.add (0 * 5)).block, (ad.add (0 * 5)).off + 4, none⟩ = some (.slice A4 (rdV xs 0).pairs.length c4) := by rw [← add_field _ _ 4 (by omega)]; exact h3 4 _ rfl
  rw [e0] at g0 g1 g2 g3 g4
  exact ⟨ad, A4, c4, rfl, g0, g1, g2, g3, g4, h2⟩
theorem Made.below {w w1 : World} {b0 top : Nat} {A : Option Addr} {xs : List Vn} (h : Made w b0 top A xs) (hb : Below top w w1) : Made w1 b0 top A xs := by
  refine ⟨⟨h.1.1, h.1.2.1, fun hn => ?_⟩, h.2⟩
  obtain ⟨ad, e, hc⟩ := h.1.2.2 hn
  refine ⟨ad, e, fun j p hj => ?_⟩
  obtain ⟨cs, h1, h2, h3⟩ := hc j p hj
  exact ⟨cs, h1, kVn.M_move (fun k hk => hb.block k hk) h2, fun i u hu => (hb.cell (by rw [add_block]; exact h.2 hn ad e)).trans (h3 i u hu)⟩
theorem made_of {w : World} {b0 : Nat} {ok : Nat → Prop} {v : Value} {xs : List Vn} (h : kVn.R 48 w b0 ok v xs) : ∃ A c, v = .slice A xs.length c ∧ xs.length ≤ c ∧ Made w b0 w.heap.size A xs := by
  obtain ⟨A, c, e, hl, hr⟩ := OwnRow.reads (Kd.R_bound h).2
  have hr2 : ReadsRow (kVn.M w b0 (fun k => k < w.heap.size)) 5 w A xs.length xs := hr.imp_ (Below.refl _ _) (fun _ _ hp => kVn.M_mono (fun k hk => hk.1.2.2.1) hp)
  refine ⟨A, c, e, hl, hr2, fun hn a ha => ?_⟩
  subst ha
  obtain ⟨ad, e2, hc⟩ := hr2.2.2 hn
  cases e2
  obtain ⟨cs, h1, h2, h3⟩ := hc 0 _ (List.getElem?_eq_getElem hn)
  obtain ⟨u, hu⟩ : ∃ u, cs[0]? = some u := ⟨cs[0], List.getElem?_eq_getElem (by omega)⟩
  have := World.block_lt_of_cell? w _ (h3 0 u hu)
  rwa [add_block] at this
theorem Made.drop {w : World} {b0 top : Nat} {A : Option Addr} {xs : List Vn} {c m : Nat} (h : Made w b0 top A xs) (hm : m ≤ xs.length) (hc : xs.length ≤ c) : Made w b0 top (if c = m then A else A.map (·.add (m * 5))) (xs.drop m) := by
  have hl : (xs.drop m).length = xs.length - m := List.length_drop
  refine ⟨⟨rfl, by rw [hl]; have := h.1.2.1; omega, fun hp => ?_⟩, fun hp a ha => ?_⟩
  case refine_2 =>
    rw [hl] at hp
    rw [if_neg (by omega)] at ha
    obtain ⟨ad, rfl, hcell⟩ := h.1.2.2 (by omega)
    cases ha
    rw [add_block]
    exact h.2 (by omega) ad rfl
  rw [hl] at hp
  obtain ⟨ad, rfl, hcell⟩ := h.1.2.2 (by omega)
  rw [if_neg (by omega)]
  refine ⟨ad.add (m * 5), rfl, fun j p hj => ?_⟩
  rw [List.getElem?_drop] at hj
  obtain ⟨cs, h1, h2, h3⟩ := hcell (m + j) p hj
  refine ⟨cs, h1, h2, fun i u hu => ?_⟩
  rw [add_add, show m * 5 + (j * 5 + i) = (m + j) * 5 + i by omega]
  exact h3 i u hu
theorem Made.tail {w : World} {b0 top : Nat} {A : Option Addr} {xs : List Vn} {c : Nat} (h : Made w b0 top A xs) (hn : 0 < xs.length) (hc : xs.length ≤ c) :
    ∃ A', (∀ W : World, (Instr.slice 22 (.slice A xs.length c) (some (.int .i64 1)) none none).run Try.prog W = .ok (.slice A' (xs.drop 1).length (c - 1)) W) ∧ Made w b0 top A' (xs.drop 1) := by
  obtain ⟨i0, hi, hz⟩ := Option.map_eq_some_iff.1 vn_info
  simp only [Prod.mk.injEq] at hz
  refine ⟨_, fun W => ?_, h.drop (m := 1) (by omega) hc⟩
  rw [cut_from 22 48 .i64 Try.underlying22 hi 5 hz.2.1 A xs.length c 1 (by decide) (by omega) W, List.length_drop]
  rfl
def mrg : List Vn → List Vn → List Vn
  | [], m => m
  | l, [] => l
  | x :: l, y :: m => if ordE y x < 0 then y :: mrg (x :: l) m else x :: mrg l (y :: m)
termination_by l m => l.length + m.length
theorem mrg_end {l m : List Vn} (h : l.length = 0 ∨ m.length = 0) : mrg l m = l ++ m := by
  rcases h with h | h
  · obtain rfl := List.eq_nil_of_length_eq_zero h
    simp [mrg]
  · obtain rfl := List.eq_nil_of_length_eq_zero h
    cases l <;> simp [mrg]
theorem cons_rd {l : List Vn} (h : 0 < l.length) : l = rdV l 0 :: l.drop 1 := by
  cases l with
  | nil => simp at h
  | cons x r => simp [rdV]
theorem mrg_y {l m : List Vn} (h1 : 0 < l.length) (h2 : 0 < m.length) (h : ordE (rdV m 0) (rdV l 0) < 0) : mrg l m = rdV m 0 :: mrg l (m.drop 1) := by
  obtain ⟨x, l, rfl⟩ : ∃ x r, l = x :: r := ⟨_, _, cons_rd h1⟩
  obtain ⟨y, m, rfl⟩ : ∃ x r, m = x :: r := ⟨_, _, cons_rd h2⟩
  rw [mrg]
  exact if_pos h
theorem mrg_x {l m : List Vn} (h1 : 0 < l.length) (h2 : 0 < m.length) (h : ¬ ordE (rdV m 0) (rdV l 0) < 0) : mrg l m = rdV l 0 :: mrg (l.drop 1) m := by
  obtain ⟨x, l, rfl⟩ : ∃ x r, l = x :: r := ⟨_, _, cons_rd h1⟩
  obtain ⟨y, m, rfl⟩ : ∃ x r, m = x :: r := ⟨_, _, cons_rd h2⟩
  rw [mrg]
  exact if_neg h
theorem own_after {v v1 : Value} {n top : Nat} (h : v1.ownBlock = v.ownBlock ∨ ∃ b, v1.ownBlock = some b ∧ n ≤ b) (hv : ∀ k, v.ownBlock = some k → top ≤ k) (hn : top ≤ n) : ∀ k, v1.ownBlock = some k → top ≤ k := fun k hk => by
  rcases h with h | ⟨b, h, hlt⟩
  · exact hv k (h.symm.trans hk)
  · have := Option.some.inj (h.symm.trans hk)
    omega
def slen : Value → Nat
  | .slice _ n _ => n
  | _ => 0
set_option maxRecDepth 100000 in
set_option maxHeartbeats 4000000 in
theorem merged_any (l m : List Vn) (A B : Option Addr) (c d b0 : Nat) (w : World) (hb0 : b0 ≤ w.heap.size) (HA : Made w b0 w.heap.size A l) (HB : Made w b0 w.heap.size B m) (hl : l.length ≤ c) (hm : m.length ≤ d) (hsz : (l.length + m.length) * 72 ≤ 140737488355328) :
    Calls Try.prog 36 #[.slice A l.length c, .slice B m.length d, .func (.func 37) #[] #[]] w fun e w' => ∃ v, e = .returned v ∧ kVn.R 48 w' b0 (fun _ => True) v (mrg l m) ∧ (∀ k, v.ownBlock = some k → w.heap.size ≤ k) ∧ Below w.heap.size w w' := by
  have h1 := Lib.hid HA
  have h2 := Lib.hid HB
  clear HA HB
  go_enter Try.func36, Try.ntmps36
  go_wp2
  go_loopw [0, 1, 7] (fun av bv ov wr => ∃ (l' m' o : List Vn) (A' B' : Option Addr) (c' d' : Nat), av = .slice A' l'.length c' ∧ bv = .slice B' m'.length d' ∧ l'.length ≤ c' ∧ m'.length ≤ d' ∧ Hid (Made wr b0 w.heap.size A' l') ∧ Hid (Made wr b0 w.heap.size B' m') ∧ Hid (kVn.R 48 wr b0 (fun _ => True) ov o) ∧ Hid (∀ k, ov.ownBlock = some k → w.heap.size ≤ k) ∧ Hid (mrg l m = o ++ mrg l' m') ∧ o.length + l'.length + m'.length = l.length + m.length ∧ Below w.heap.size w wr) (fun av bv _ _ => slen av + slen bv)
  case atStart => exact ⟨l, m, [], A, B, c, d, rfl, rfl, hl, hm, h1, h2, Kd.R_nil _ _ _ _ _, (fun k hk => by simp [Value.ownBlock] at hk), (by show mrg l m = [] ++ mrg l m; rfl), by simp, Below.refl _ _⟩
  case round =>
    obtain ⟨l', m', o, A', B', c', d', rfl, rfl, hl', hm', HA, HB, HO, HW, HM, hlen, hbw⟩ := hrel
    by_cases q1 : 0 < l'.length
    · by_cases q2 : 0 < m'.length
      · have t1 : decide (0 < l'.length) = true := decide_eq_true q1
        have t2 : decide (0 < m'.length) = true := decide_eq_true q2
        have t3 : decide ((0 : Int) < (l'.length : Int)) = true := decide_eq_true (by omega)
        have t4 : decide ((0 : Int) < (m'.length : Int)) = true := decide_eq_true (by omega)
        obtain ⟨A'', ctA, HA2⟩ := HA.out.tail q1 hl'
        obtain ⟨B'', ctB, HB2⟩ := HB.out.tail q2 hm'
        obtain ⟨ad, A4, c4, rfl, x0, x1, x2, x3, x4, xM⟩ := HA.out.first q1
        obtain ⟨bd, B4, d4, rfl, y0, y1, y2, y3, y4, yM⟩ := HB.out.first q2
        have HY0 := fun h => Lib.hid (mrg_y q1 q2 h)
        have HX0 := fun h => Lib.hid (mrg_x q1 q2 h)
        generalize rdV l' 0 = x at *
        generalize rdV m' 0 = y at *
        have HA3 := Lib.hid HA2
        have HB3 := Lib.hid HB2
        have XM := Lib.hid xM
        have YM := Lib.hid yM
        have hda : (l'.drop 1).length = l'.length - 1 := List.length_drop
        have hdb : (m'.drop 1).length = m'.length - 1 := List.length_drop
        have hb0w : b0 ≤ wr.heap.size := Nat.le_trans hb0 hbw.size
        have HS := fun w' => Lib.hid (order_any y x B4 A4 d4 c4 w')
        clear xM yM HA2 HB2
        by_cases q : ordE y x < 0
        · have t5 : decide (ordE y x < 0) = true := decide_eq_true q
          have HM1 := HY0 q
          clear HY0 HX0
          go_wp2
          refine start_ (n := 9) (S := fun w' => w'.cell? ad = some (.string x.key) ∧ w'.cell? ⟨ad.block, ad.off + 1, none⟩ = some (.int .i64 x.seq) ∧ w'.cell? ⟨ad.block, ad.off + 2, none⟩ = some (.bool x.gone) ∧ w'.cell? ⟨ad.block, ad.off + 3, none⟩ = some (.string x.data) ∧ w'.cell? ⟨ad.block, ad.off + 4, none⟩ = some (.slice A4 x.pairs.length c4) ∧ w'.cell? bd = some (.string y.key) ∧ w'.cell? ⟨bd.block, bd.off + 1, none⟩ = some (.int .i64 y.seq) ∧ w'.cell? ⟨bd.block, bd.off + 2, none⟩ = some (.bool y.gone) ∧ w'.cell? ⟨bd.block, bd.off + 3, none⟩ = some (.string y.data) ∧ w'.cell? ⟨bd.block, bd.off + 4, none⟩ = some (.slice B4 y.pairs.length d4)) (ds := []) #[false, false, false, false, false, false, false, false, false] (by kernel_rfl) rfl rfl ⟨x0, x1, x2, x3, x4, y0, y1, y2, y3, y4⟩ (fun hHeld => ?_)
          refine with_tabW mG.tab3 mG.bits3 (fun HT_ HW_ => ?_)
          refine pure_ (i := 0) (N := some 16) (v := ?_) (a' := ?_) #[true, false, false, false, false, false, false, false, false] rfl rfl (any_of HT_.out (by kernel_rfl)) (fun _ _ _ h => h) (Or.inl ⟨by rfl, ?_⟩) ?_ ?_
          rotate_left
          · intro w'
            go_simp
            with_reducible rfl
          rotate_left
          · simp only [Act.put, List.setIfInBounds_toArray, List.set_cons_zero, List.set_cons_succ, i64_w, i32_w]
            rfl
          refine pure_ (i := 1) (N := some 17) (v := ?_) (a' := ?_) #[true, true, false, false, false, false, false, false, false] rfl rfl (any_of HT_.out (by kernel_rfl)) (fun _ _ _ h => h) (Or.inl ⟨by rfl, ?_⟩) ?_ ?_
          rotate_left
          · intro w'
            go_simp
            with_reducible rfl
          rotate_left
          · simp only [Act.put, List.setIfInBounds_toArray, List.set_cons_zero, List.set_cons_succ, i64_w, i32_w]
            rfl
          refine pure_ (i := 2) (N := some 18) (v := ?_) (a' := ?_) #[true, true, true, false, false, false, false, false, false] rfl rfl (any_of HT_.out (by kernel_rfl)) (fun _ _ _ h => h) (Or.inl ⟨by rfl, ?_⟩) ?_ ?_
          rotate_left
          · intro w'
            go_simp
            with_reducible rfl
          rotate_left
          · simp only [Act.put, List.setIfInBounds_toArray, List.set_cons_zero, List.set_cons_succ, i64_w, i32_w]
            rfl
          refine pure_ (i := 4) (N := some 20) (v := ?_) (a' := ?_) #[true, true, true, false, true, false, false, false, false] rfl rfl (any_of HT_.out (by kernel_rfl)) (fun _ _ _ h => h) (Or.inl ⟨by rfl, ?_⟩) ?_ ?_
          rotate_left
          · intro w'
            go_simp
            with_reducible rfl
          rotate_left
          · simp only [Act.put, List.setIfInBounds_toArray, List.set_cons_zero, List.set_cons_succ, i64_w, i32_w]
            rfl
          refine pure_ (i := 5) (N := some 21) (v := ?_) (a' := ?_) #[true, true, true, false, true, true, false, false, false] rfl rfl (any_of HT_.out (by kernel_rfl)) (fun _ _ _ h => h) (Or.inl ⟨by rfl, ?_⟩) ?_ ?_
          rotate_left
          · intro w'
            go_simp
            with_reducible rfl
          rotate_left
          · simp only [Act.put, List.setIfInBounds_toArray, List.set_cons_zero, List.set_cons_succ, i64_w, i32_w]
            rfl
          refine take_ (i := 3) (N := some 19) (v := ?_) (a' := ?_) #[true, true, true, true, true, true, false, false, false] rfl rfl (take_ofW HT_.out HW_.out (by kernel_rfl)) (fun _ _ _ h => h) (Or.inl ⟨by rfl, ?_⟩) hHeld ?_ ?_
          rotate_left
          · rintro w' ⟨s0, s1, s2, s3, s4, s5, s6, s7, s8, s9⟩
            go_simp
            with_reducible rfl
          rotate_left
          · simp only [Act.put, List.setIfInBounds_toArray, List.set_cons_zero, List.set_cons_succ, i64_w, i32_w]
            rfl
          refine take_ (i := 6) (N := some 22) (v := ?_) (a' := ?_) #[true, true, true, true, true, true, true, false, false] rfl rfl (take_ofW HT_.out HW_.out (by kernel_rfl)) (fun _ _ _ h => h) (Or.inl ⟨by rfl, ?_⟩) hHeld ?_ ?_
          rotate_left
          · rintro w' ⟨s0, s1, s2, s3, s4, s5, s6, s7, s8, s9⟩
            go_simp
            with_reducible rfl
          rotate_left
          · simp only [Act.put, List.setIfInBounds_toArray, List.set_cons_zero, List.set_cons_succ, i64_w, i32_w]
            rfl
          refine one_ (i := 7) (N := some 23) #[true, true, true, true, true, true, true, true, false] rfl rfl (one_of HT_.out (by kernel_rfl)) (by decide) (fun K hK => ?_)
          refine goesv_ Try.func37 (by kernel_rfl) rfl #[y.val B4 d4, x.val A4 c4] (by rfl) rfl rfl rfl (by simp only [List.map_toArray, List.map_cons, List.map_nil]; rfl) ?_
          with_reducible refine (HS _).out.mono ?_
          rintro e w3 ⟨rfl, hb⟩
          have hb3 := hb
          refine ⟨_, rfl, ?_⟩
          refine hK.out _ _ ⟨pw_cell_below hb (hHeld.1), pw_cell_below hb (hHeld.2.1), pw_cell_below hb (hHeld.2.2.1), pw_cell_below hb (hHeld.2.2.2.1), pw_cell_below hb (hHeld.2.2.2.2.1), pw_cell_below hb (hHeld.2.2.2.2.2.1), pw_cell_below hb (hHeld.2.2.2.2.2.2.1), pw_cell_below hb (hHeld.2.2.2.2.2.2.2.1), pw_cell_below hb (hHeld.2.2.2.2.2.2.2.2.1), pw_cell_below hb (hHeld.2.2.2.2.2.2.2.2.2)⟩ (fun hHeld => ?_)
          clear hK K
          refine norm_ (a' := ?_) ?_ ?_
          rotate_left
          · show Act.put _ (some 23) _ = _
            simp only [Act.put, List.setIfInBounds_toArray, List.set_cons_zero, List.set_cons_succ, i64_w, i32_w]
            rfl
          refine pure_ (i := 8) (N := some 24) (v := ?_) (a' := ?_) #[true, true, true, true, true, true, true, true, true] rfl rfl (any_of HT_.out (by kernel_rfl)) (fun _ _ _ h => h) (Or.inl ⟨by rfl, ?_⟩) ?_ ?_
          rotate_left
          · intro w'
            go_simp
            with_reducible rfl
          rotate_left
          · simp only [Act.put, List.setIfInBounds_toArray, List.set_cons_zero, List.set_cons_succ, i64_w, i32_w]
            rfl
          refine done_ (done_of HT_.out (by kernel_rfl)) ?_
          have hbw3 : Below w.heap.size w w3 := hbw.trans ((below_drewN (Below.refl _ _) 1).trans hb3 |>.mono hbw.size)
          have hb0d : b0 ≤ w3.drew.heap.size := Nat.le_trans hb0 hbw3.size
          have HO3 : kVn.R 48 w3.drew b0 (fun _ => True) u7 o := Kd.R_below (Kd.R_below HO.out ((below_drewN (Below.refl _ _) 1).trans hb3)) (below_drewN (Below.refl _ _) 1)
          have YM3 : kVn.M w3.drew b0 (fun k => k < w.heap.size) y [.string y.key, .int .i64 y.seq, .bool y.gone, .string y.data, .slice B4 y.pairs.length d4] := Kd.M_below YM.out (((below_drewN (Below.refl _ _) 1).trans hb3).drew)
          go_wp2
          refine start_ (n := 10) (S := fun w' => w'.cell? bd = some (.string y.key) ∧ w'.cell? ⟨bd.block, bd.off + 1, none⟩ = some (.int .i64 y.seq) ∧ w'.cell? ⟨bd.block, bd.off + 2, none⟩ = some (.bool y.gone) ∧ w'.cell? ⟨bd.block, bd.off + 3, none⟩ = some (.string y.data) ∧ w'.cell? ⟨bd.block, bd.off + 4, none⟩ = some (.slice B4 y.pairs.length d4)) (ds := [5]) #[false, false, false, false, false, false, false, false, false, false] (by kernel_rfl) rfl rfl ⟨pw_cell_below hb3 y0, pw_cell_below hb3 y1, pw_cell_below hb3 y2, pw_cell_below hb3 y3, pw_cell_below hb3 y4⟩ (fun hHeld => ?_)
          refine with_tabW mG.tab4 mG.bits4 (fun HT_ HW_ => ?_)
          refine pure_ (i := 0) (N := some 25) (v := ?_) (a' := ?_) #[true, false, false, false, false, false, false, false, false, false] rfl rfl (any_of HT_.out (by kernel_rfl)) (fun _ _ _ h => h) (Or.inl ⟨by rfl, ?_⟩) ?_ ?_
          rotate_left
          · intro w'
            go_simp
            with_reducible rfl
          rotate_left
          · simp only [Act.put, List.setIfInBounds_toArray, List.set_cons_zero, List.set_cons_succ, i64_w, i32_w]
            rfl
          refine pure_ (i := 1) (N := some 26) (v := ?_) (a' := ?_) #[true, true, false, false, false, false, false, false, false, false] rfl rfl (any_of HT_.out (by kernel_rfl)) (fun _ _ _ h => h) (Or.inl ⟨by rfl, ?_⟩) ?_ ?_
          rotate_left
          · intro w'
            go_simp
            with_reducible rfl
          rotate_left
          · simp only [Act.put, List.setIfInBounds_toArray, List.set_cons_zero, List.set_cons_succ, i64_w, i32_w]
            rfl
          refine pure_ (i := 2) (N := some 27) (v := ?_) (a' := ?_) #[true, true, true, false, false, false, false, false, false, false] rfl rfl (any_of HT_.out (by kernel_rfl)) (fun _ _ _ h => h) (Or.inl ⟨by rfl, ?_⟩) ?_ ?_
          rotate_left
          · intro w'
            go_simp
            with_reducible rfl
          rotate_left
          · simp only [Act.put, List.setIfInBounds_toArray, List.set_cons_zero, List.set_cons_succ, i64_w, i32_w]
            rfl
          refine pure_ (i := 6) (N := some 31) (v := ?_) (a' := ?_) #[true, true, true, false, false, false, true, false, false, false] rfl rfl (any_of HT_.out (by kernel_rfl)) (fun _ _ _ h => h) (Or.inl ⟨by rfl, ?_⟩) ?_ ?_
          rotate_left
          · intro w'
            go_simp
            with_reducible rfl
          rotate_left
          · simp only [Act.put, List.setIfInBounds_toArray, List.set_cons_zero, List.set_cons_succ, i64_w, i32_w]
            rfl
          refine pure_ (i := 7) (N := some 32) (v := ?_) (a' := ?_) #[true, true, true, false, false, false, true, true, false, false] rfl rfl (any_of HT_.out (by kernel_rfl)) (fun _ _ _ h => h) (Or.inl ⟨by rfl, ?_⟩) ?_ ?_
          rotate_left
          · intro w'
            go_simp
            with_reducible rfl
          rotate_left
          · simp only [Act.put, List.setIfInBounds_toArray, List.set_cons_zero, List.set_cons_succ, i64_w, i32_w]
            rfl
          refine take_ (i := 3) (N := some 28) (v := ?_) (a' := ?_) #[true, true, true, true, false, false, true, true, false, false] rfl rfl (take_ofW HT_.out HW_.out (by kernel_rfl)) (fun _ _ _ h => h) (Or.inl ⟨by rfl, ?_⟩) hHeld ?_ ?_
          rotate_left
          · rintro w' ⟨s0, s1, s2, s3, s4⟩
            go_simp
            with_reducible rfl
          rotate_left
          · simp only [Act.put, List.setIfInBounds_toArray, List.set_cons_zero, List.set_cons_succ, i64_w, i32_w]
            rfl
          refine one_ (i := 4) (N := some 29) #[true, true, true, true, true, false, true, true, false, false] rfl rfl (one_of HT_.out (by kernel_rfl)) (by decide) (fun K hK => ?_)
          refine value_ (w1 := ?_) (v := ?_) (by rfl) rfl ?_ ?_
          rotate_left 2
          · go_simp
            constructor
            · rfl
            · rfl
          refine hK.out _ _ ⟨pw_cell_below (below1 w3.drew _) (hHeld.1), pw_cell_below (below1 w3.drew _) (hHeld.2.1), pw_cell_below (below1 w3.drew _) (hHeld.2.2.1), pw_cell_below (below1 w3.drew _) (hHeld.2.2.2.1), pw_cell_below (below1 w3.drew _) (hHeld.2.2.2.2)⟩ (fun hHeld => ?_)
          clear hK K
          refine norm_ (a' := ?_) ?_ ?_
          rotate_left
          · show Act.put _ (some 29) _ = _
            simp only [Act.put, List.setIfInBounds_toArray, List.set_cons_zero, List.set_cons_succ, i64_w, i32_w]
            rfl
          refine last_ (i := 5) (N := some 30) #[true, true, true, true, true, true, true, true, false, false] rfl rfl (one_of HT_.out (by kernel_rfl)) (by decide) (fun K hK => ?_)
          refine Kd.R_append_step kVn b0 (by rfl) (.tmp 25) (.tmp 29) 22 48 _ 72 rfl Try.underlying22 vn_info rfl (by decide) (by decide) u7 o y [.string y.key, .int .i64 y.seq, .bool y.gone, .string y.data, .slice B4 y.pairs.length d4] (fun _ => True) (fun k => k < w.heap.size) rfl rfl YM3 (fun k hk => ⟨trivial, fun h => by have := HW.out k h.symm; omega⟩) (fun _ _ => trivial) HO3 (Below.refl _ _) hb0d (by omega) ?_
          intro v1 w1 hR hB hg hat
          have HR := Lib.hid hR
          have HG := Lib.hid hg
          have HAT := Lib.hid hat
          clear hR hB hg hat
          refine hK.out _ _ ?_
          clear hK K
          refine norm_ (a' := ?_) ?_ ?_
          rotate_left
          · show Act.put _ (some 30) _ = _
            simp only [Act.put, List.setIfInBounds_toArray, List.set_cons_zero, List.set_cons_succ, i64_w, i32_w]
            rfl
          refine pure_ (i := 8) (N := some 7) (v := ?_) (a' := ?_) #[true, true, true, true, true, true, true, true, true, false] rfl rfl (any_of HT_.out (by kernel_rfl)) (fun _ _ _ h => h) (Or.inl ⟨by rfl, ?_⟩) ?_ ?_
          rotate_left
          · intro w'
            go_simp
            with_reducible rfl
          rotate_left
          · simp only [Act.put, List.setIfInBounds_toArray, List.set_cons_zero, List.set_cons_succ, i64_w, i32_w]
            rfl
          refine pure_ (i := 9) (N := some 1) (v := ?_) (a' := ?_) #[true, true, true, true, true, true, true, true, true, true] rfl rfl (any_of HT_.out (by kernel_rfl)) (fun _ _ _ h => h) (Or.inl ⟨by rfl, ?_⟩) ?_ ?_
          rotate_left
          · intro w'
            go_simp
            with_reducible rfl
          rotate_left
          · simp only [Act.put, List.setIfInBounds_toArray, List.set_cons_zero, List.set_cons_succ, i64_w, i32_w]
            rfl
          refine done_ (done_of HT_.out (by kernel_rfl)) ?_
          have hwr1 : Below w.heap.size wr w1 := (((((below_drewN (Below.refl _ _) 1).trans hb3).mono hbw.size).drew).grown HG.out hbw3.size (fun k hk => HW.out k hk))
          have HN := Lib.hid (hbw.trans hwr1)
          have hat2 := own_after HAT.out HW.out hbw3.size
          have HA5 := HA.out.below hwr1
          have HB5 := HB.out.below hwr1
          have HA6 := HA3.out.below hwr1
          have HB6 := HB3.out.below hwr1
          have hmm : mrg l m = (o ++ [y]) ++ mrg l' (m'.drop 1) := by rw [HM.out, HM1.out, List.append_assoc]; rfl
          have HMM := Lib.hid hmm
          clear hmm
          go_roundw
          case rel =>
            exact ⟨_, _, _, _, _, _, _, _, _, _, _, _, _, _, _, _, _, _, _, _, _, _, _, _, _, _, _, _, _, _, _, _, _, _, _, _, ⟨l', (m'.drop 1), o ++ [y], some ad, B'', c', d' - 1, by first | rfl | (rfl), by first | rfl | (rw [hdb]), hl', by omega, HA5, HB6, HR, hat2, HMM, by rw [List.length_append, hdb, List.length_singleton]; omega, HN.out⟩, rfl⟩
          case measure => simp [slen]; omega
        · have t5 : decide (ordE y x < 0) = false := decide_eq_false q
          have HM1 := HX0 q
          clear HY0 HX0
          go_wp2
          refine start_ (n := 9) (S := fun w' => w'.cell? ad = some (.string x.key) ∧ w'.cell? ⟨ad.block, ad.off + 1, none⟩ = some (.int .i64 x.seq) ∧ w'.cell? ⟨ad.block, ad.off + 2, none⟩ = some (.bool x.gone) ∧ w'.cell? ⟨ad.block, ad.off + 3, none⟩ = some (.string x.data) ∧ w'.cell? ⟨ad.block, ad.off + 4, none⟩ = some (.slice A4 x.pairs.length c4) ∧ w'.cell? bd = some (.string y.key) ∧ w'.cell? ⟨bd.block, bd.off + 1, none⟩ = some (.int .i64 y.seq) ∧ w'.cell? ⟨bd.block, bd.off + 2, none⟩ = some (.bool y.gone) ∧ w'.cell? ⟨bd.block, bd.off + 3, none⟩ = some (.string y.data) ∧ w'.cell? ⟨bd.block, bd.off + 4, none⟩ = some (.slice B4 y.pairs.length d4)) (ds := []) #[false, false, false, false, false, false, false, false, false] (by kernel_rfl) rfl rfl ⟨x0, x1, x2, x3, x4, y0, y1, y2, y3, y4⟩ (fun hHeld => ?_)
          refine with_tabW mG.tab3 mG.bits3 (fun HT_ HW_ => ?_)
          refine pure_ (i := 0) (N := some 16) (v := ?_) (a' := ?_) #[true, false, false, false, false, false, false, false, false] rfl rfl (any_of HT_.out (by kernel_rfl)) (fun _ _ _ h => h) (Or.inl ⟨by rfl, ?_⟩) ?_ ?_
          rotate_left
          · intro w'
            go_simp
            with_reducible rfl
          rotate_left
          · simp only [Act.put, List.setIfInBounds_toArray, List.set_cons_zero, List.set_cons_succ, i64_w, i32_w]
            rfl
          refine pure_ (i := 1) (N := some 17) (v := ?_) (a' := ?_) #[true, true, false, false, false, false, false, false, false] rfl rfl (any_of HT_.out (by kernel_rfl)) (fun _ _ _ h => h) (Or.inl ⟨by rfl, ?_⟩) ?_ ?_
          rotate_left
          · intro w'
            go_simp
            with_reducible rfl
          rotate_left
          · simp only [Act.put, List.setIfInBounds_toArray, List.set_cons_zero, List.set_cons_succ, i64_w, i32_w]
            rfl
          refine pure_ (i := 2) (N := some 18) (v := ?_) (a' := ?_) #[true, true, true, false, false, false, false, false, false] rfl rfl (any_of HT_.out (by kernel_rfl)) (fun _ _ _ h => h) (Or.inl ⟨by rfl, ?_⟩) ?_ ?_
          rotate_left
          · intro w'
            go_simp
            with_reducible rfl
          rotate_left
          · simp only [Act.put, List.setIfInBounds_toArray, List.set_cons_zero, List.set_cons_succ, i64_w, i32_w]
            rfl
          refine pure_ (i := 4) (N := some 20) (v := ?_) (a' := ?_) #[true, true, true, false, true, false, false, false, false] rfl rfl (any_of HT_.out (by kernel_rfl)) (fun _ _ _ h => h) (Or.inl ⟨by rfl, ?_⟩) ?_ ?_
          rotate_left
          · intro w'
            go_simp
            with_reducible rfl
          rotate_left
          · simp only [Act.put, List.setIfInBounds_toArray, List.set_cons_zero, List.set_cons_succ, i64_w, i32_w]
            rfl
          refine pure_ (i := 5) (N := some 21) (v := ?_) (a' := ?_) #[true, true, true, false, true, true, false, false, false] rfl rfl (any_of HT_.out (by kernel_rfl)) (fun _ _ _ h => h) (Or.inl ⟨by rfl, ?_⟩) ?_ ?_
          rotate_left
          · intro w'
            go_simp
            with_reducible rfl
          rotate_left
          · simp only [Act.put, List.setIfInBounds_toArray, List.set_cons_zero, List.set_cons_succ, i64_w, i32_w]
            rfl
          refine take_ (i := 3) (N := some 19) (v := ?_) (a' := ?_) #[true, true, true, true, true, true, false, false, false] rfl rfl (take_ofW HT_.out HW_.out (by kernel_rfl)) (fun _ _ _ h => h) (Or.inl ⟨by rfl, ?_⟩) hHeld ?_ ?_
          rotate_left
          · rintro w' ⟨s0, s1, s2, s3, s4, s5, s6, s7, s8, s9⟩
            go_simp
            with_reducible rfl
          rotate_left
          · simp only [Act.put, List.setIfInBounds_toArray, List.set_cons_zero, List.set_cons_succ, i64_w, i32_w]
            rfl
          refine take_ (i := 6) (N := some 22) (v := ?_) (a' := ?_) #[true, true, true, true, true, true, true, false, false] rfl rfl (take_ofW HT_.out HW_.out (by kernel_rfl)) (fun _ _ _ h => h) (Or.inl ⟨by rfl, ?_⟩) hHeld ?_ ?_
          rotate_left
          · rintro w' ⟨s0, s1, s2, s3, s4, s5, s6, s7, s8, s9⟩
            go_simp
            with_reducible rfl
          rotate_left
          · simp only [Act.put, List.setIfInBounds_toArray, List.set_cons_zero, List.set_cons_succ, i64_w, i32_w]
            rfl
          refine one_ (i := 7) (N := some 23) #[true, true, true, true, true, true, true, true, false] rfl rfl (one_of HT_.out (by kernel_rfl)) (by decide) (fun K hK => ?_)
          refine goesv_ Try.func37 (by kernel_rfl) rfl #[y.val B4 d4, x.val A4 c4] (by rfl) rfl rfl rfl (by simp only [List.map_toArray, List.map_cons, List.map_nil]; rfl) ?_
          with_reducible refine (HS _).out.mono ?_
          rintro e w3 ⟨rfl, hb⟩
          have hb3 := hb
          refine ⟨_, rfl, ?_⟩
          refine hK.out _ _ ⟨pw_cell_below hb (hHeld.1), pw_cell_below hb (hHeld.2.1), pw_cell_below hb (hHeld.2.2.1), pw_cell_below hb (hHeld.2.2.2.1), pw_cell_below hb (hHeld.2.2.2.2.1), pw_cell_below hb (hHeld.2.2.2.2.2.1), pw_cell_below hb (hHeld.2.2.2.2.2.2.1), pw_cell_below hb (hHeld.2.2.2.2.2.2.2.1), pw_cell_below hb (hHeld.2.2.2.2.2.2.2.2.1), pw_cell_below hb (hHeld.2.2.2.2.2.2.2.2.2)⟩ (fun hHeld => ?_)
          clear hK K
          refine norm_ (a' := ?_) ?_ ?_
          rotate_left
          · show Act.put _ (some 23) _ = _
            simp only [Act.put, List.setIfInBounds_toArray, List.set_cons_zero, List.set_cons_succ, i64_w, i32_w]
            rfl
          refine pure_ (i := 8) (N := some 24) (v := ?_) (a' := ?_) #[true, true, true, true, true, true, true, true, true] rfl rfl (any_of HT_.out (by kernel_rfl)) (fun _ _ _ h => h) (Or.inl ⟨by rfl, ?_⟩) ?_ ?_
          rotate_left
          · intro w'
            go_simp
            with_reducible rfl
          rotate_left
          · simp only [Act.put, List.setIfInBounds_toArray, List.set_cons_zero, List.set_cons_succ, i64_w, i32_w]
            rfl
          refine done_ (done_of HT_.out (by kernel_rfl)) ?_
          have hbw3 : Below w.heap.size w w3 := hbw.trans ((below_drewN (Below.refl _ _) 1).trans hb3 |>.mono hbw.size)
          have hb0d : b0 ≤ w3.drew.heap.size := Nat.le_trans hb0 hbw3.size
          have HO3 : kVn.R 48 w3.drew b0 (fun _ => True) u7 o := Kd.R_below (Kd.R_below HO.out ((below_drewN (Below.refl _ _) 1).trans hb3)) (below_drewN (Below.refl _ _) 1)
          have XM3 : kVn.M w3.drew b0 (fun k => k < w.heap.size) x [.string x.key, .int .i64 x.seq, .bool x.gone, .string x.data, .slice A4 x.pairs.length c4] := Kd.M_below XM.out (((below_drewN (Below.refl _ _) 1).trans hb3).drew)
          go_wp2
          refine start_ (n := 10) (S := fun w' => w'.cell? ad = some (.string x.key) ∧ w'.cell? ⟨ad.block, ad.off + 1, none⟩ = some (.int .i64 x.seq) ∧ w'.cell? ⟨ad.block, ad.off + 2, none⟩ = some (.bool x.gone) ∧ w'.cell? ⟨ad.block, ad.off + 3, none⟩ = some (.string x.data) ∧ w'.cell? ⟨ad.block, ad.off + 4, none⟩ = some (.slice A4 x.pairs.length c4)) (ds := [5]) #[false, false, false, false, false, false, false, false, false, false] (by kernel_rfl) rfl rfl ⟨pw_cell_below hb3 x0, pw_cell_below hb3 x1, pw_cell_below hb3 x2, pw_cell_below hb3 x3, pw_cell_below hb3 x4⟩ (fun hHeld => ?_)
          refine with_tabW mG.tab5 mG.bits5 (fun HT_ HW_ => ?_)
          refine pure_ (i := 0) (N := some 33) (v := ?_) (a' := ?_) #[true, false, false, false, false, false, false, false, false, false] rfl rfl (any_of HT_.out (by kernel_rfl)) (fun _ _ _ h => h) (Or.inl ⟨by rfl, ?_⟩) ?_ ?_
          rotate_left
          · intro w'
            go_simp
            with_reducible rfl
          rotate_left
          · simp only [Act.put, List.setIfInBounds_toArray, List.set_cons_zero, List.set_cons_succ, i64_w, i32_w]
            rfl
          refine pure_ (i := 1) (N := some 34) (v := ?_) (a' := ?_) #[true, true, false, false, false, false, false, false, false, false] rfl rfl (any_of HT_.out (by kernel_rfl)) (fun _ _ _ h => h) (Or.inl ⟨by rfl, ?_⟩) ?_ ?_
          rotate_left
          · intro w'
            go_simp
            with_reducible rfl
          rotate_left
          · simp only [Act.put, List.setIfInBounds_toArray, List.set_cons_zero, List.set_cons_succ, i64_w, i32_w]
            rfl
          refine pure_ (i := 2) (N := some 35) (v := ?_) (a' := ?_) #[true, true, true, false, false, false, false, false, false, false] rfl rfl (any_of HT_.out (by kernel_rfl)) (fun _ _ _ h => h) (Or.inl ⟨by rfl, ?_⟩) ?_ ?_
          rotate_left
          · intro w'
            go_simp
            with_reducible rfl
          rotate_left
          · simp only [Act.put, List.setIfInBounds_toArray, List.set_cons_zero, List.set_cons_succ, i64_w, i32_w]
            rfl
          refine pure_ (i := 6) (N := some 39) (v := ?_) (a' := ?_) #[true, true, true, false, false, false, true, false, false, false] rfl rfl (any_of HT_.out (by kernel_rfl)) (fun _ _ _ h => h) (Or.inl ⟨by rfl, ?_⟩) ?_ ?_
          rotate_left
          · intro w'
            go_simp
            with_reducible rfl
          rotate_left
          · simp only [Act.put, List.setIfInBounds_toArray, List.set_cons_zero, List.set_cons_succ, i64_w, i32_w]
            rfl
          refine pure_ (i := 7) (N := some 40) (v := ?_) (a' := ?_) #[true, true, true, false, false, false, true, true, false, false] rfl rfl (any_of HT_.out (by kernel_rfl)) (fun _ _ _ h => h) (Or.inl ⟨by rfl, ?_⟩) ?_ ?_
          rotate_left
          · intro w'
            go_simp
            with_reducible rfl
          rotate_left
          · simp only [Act.put, List.setIfInBounds_toArray, List.set_cons_zero, List.set_cons_succ, i64_w, i32_w]
            rfl
          refine take_ (i := 3) (N := some 36) (v := ?_) (a' := ?_) #[true, true, true, true, false, false, true, true, false, false] rfl rfl (take_ofW HT_.out HW_.out (by kernel_rfl)) (fun _ _ _ h => h) (Or.inl ⟨by rfl, ?_⟩) hHeld ?_ ?_
          rotate_left
          · rintro w' ⟨s0, s1, s2, s3, s4⟩
            go_simp
            with_reducible rfl
          rotate_left
          · simp only [Act.put, List.setIfInBounds_toArray, List.set_cons_zero, List.set_cons_succ, i64_w, i32_w]
            rfl
          refine one_ (i := 4) (N := some 37) #[true, true, true, true, true, false, true, true, false, false] rfl rfl (one_of HT_.out (by kernel_rfl)) (by decide) (fun K hK => ?_)
          refine value_ (w1 := ?_) (v := ?_) (by rfl) rfl ?_ ?_
          rotate_left 2
          · go_simp
            constructor
            · rfl
            · rfl
          refine hK.out _ _ ⟨pw_cell_below (below1 w3.drew _) (hHeld.1), pw_cell_below (below1 w3.drew _) (hHeld.2.1), pw_cell_below (below1 w3.drew _) (hHeld.2.2.1), pw_cell_below (below1 w3.drew _) (hHeld.2.2.2.1), pw_cell_below (below1 w3.drew _) (hHeld.2.2.2.2)⟩ (fun hHeld => ?_)
          clear hK K
          refine norm_ (a' := ?_) ?_ ?_
          rotate_left
          · show Act.put _ (some 37) _ = _
            simp only [Act.put, List.setIfInBounds_toArray, List.set_cons_zero, List.set_cons_succ, i64_w, i32_w]
            rfl
          refine last_ (i := 5) (N := some 38) #[true, true, true, true, true, true, true, true, false, false] rfl rfl (one_of HT_.out (by kernel_rfl)) (by decide) (fun K hK => ?_)
          refine Kd.R_append_step kVn b0 (by rfl) (.tmp 33) (.tmp 37) 22 48 _ 72 rfl Try.underlying22 vn_info rfl (by decide) (by decide) u7 o x [.string x.key, .int .i64 x.seq, .bool x.gone, .string x.data, .slice A4 x.pairs.length c4] (fun _ => True) (fun k => k < w.heap.size) rfl rfl XM3 (fun k hk => ⟨trivial, fun h => by have := HW.out k h.symm; omega⟩) (fun _ _ => trivial) HO3 (Below.refl _ _) hb0d (by omega) ?_
          intro v1 w1 hR hB hg hat
          have HR := Lib.hid hR
          have HG := Lib.hid hg
          have HAT := Lib.hid hat
          clear hR hB hg hat
          refine hK.out _ _ ?_
          clear hK K
          refine norm_ (a' := ?_) ?_ ?_
          rotate_left
          · show Act.put _ (some 38) _ = _
            simp only [Act.put, List.setIfInBounds_toArray, List.set_cons_zero, List.set_cons_succ, i64_w, i32_w]
            rfl
          refine pure_ (i := 8) (N := some 7) (v := ?_) (a' := ?_) #[true, true, true, true, true, true, true, true, true, false] rfl rfl (any_of HT_.out (by kernel_rfl)) (fun _ _ _ h => h) (Or.inl ⟨by rfl, ?_⟩) ?_ ?_
          rotate_left
          · intro w'
            go_simp
            with_reducible rfl
          rotate_left
          · simp only [Act.put, List.setIfInBounds_toArray, List.set_cons_zero, List.set_cons_succ, i64_w, i32_w]
            rfl
          refine pure_ (i := 9) (N := some 0) (v := ?_) (a' := ?_) #[true, true, true, true, true, true, true, true, true, true] rfl rfl (any_of HT_.out (by kernel_rfl)) (fun _ _ _ h => h) (Or.inl ⟨by rfl, ?_⟩) ?_ ?_
          rotate_left
          · intro w'
            go_simp
            with_reducible rfl
          rotate_left
          · simp only [Act.put, List.setIfInBounds_toArray, List.set_cons_zero, List.set_cons_succ, i64_w, i32_w]
            rfl
          refine done_ (done_of HT_.out (by kernel_rfl)) ?_
          have hwr1 : Below w.heap.size wr w1 := (((((below_drewN (Below.refl _ _) 1).trans hb3).mono hbw.size).drew).grown HG.out hbw3.size (fun k hk => HW.out k hk))
          have HN := Lib.hid (hbw.trans hwr1)
          have hat2 := own_after HAT.out HW.out hbw3.size
          have HA5 := HA.out.below hwr1
          have HB5 := HB.out.below hwr1
          have HA6 := HA3.out.below hwr1
          have HB6 := HB3.out.below hwr1
          have hmm : mrg l m = (o ++ [x]) ++ mrg (l'.drop 1) m' := by rw [HM.out, HM1.out, List.append_assoc]; rfl
          have HMM := Lib.hid hmm
          clear hmm
          go_roundw
          case rel =>
            exact ⟨_, _, _, _, _, _, _, _, _, _, _, _, _, _, _, _, _, _, _, _, _, _, _, _, _, _, _, _, _, _, _, _, _, _, _, _, ⟨(l'.drop 1), m', o ++ [x], A'', some bd, c' - 1, d', by first | rfl | (rw [hda]), by first | rfl | (rfl), by omega, hm', HA6, HB5, HR, hat2, HMM, by rw [List.length_append, hda, List.length_singleton]; omega, HN.out⟩, rfl⟩
          case measure => simp [slen]; omega
      · have t1 : decide (0 < l'.length) = true := decide_eq_true q1
        have t2 : decide (0 < m'.length) = false := decide_eq_false q2
        have t3 : decide ((0 : Int) < (l'.length : Int)) = true := decide_eq_true (by omega)
        have t4 : decide ((0 : Int) < (m'.length : Int)) = false := decide_eq_false (by omega)
        have hme : mrg l m = (o ++ l') ++ m' := by rw [HM.out, mrg_end (.inr (by omega)), List.append_assoc]
        have HME := Lib.hid hme
        clear hme
        go_wp2_with (first | (at_builtin; refine Kd.R_append_rows kVn (Rr := kVn.M wr b0 (fun k => k < w.heap.size)) (w0 := wr) b0 rfl _ _ 22 48 _ 72 rfl Try.underlying22 vn_info rfl (by decide) (by decide) u7 o l' A' l'.length c' (fun _ => True) (fun k => k < w.heap.size) rfl rfl HO.out HA.out.1 (fun _ _ h => h) (fun k hk => ⟨trivial, fun h => by have := HW.out k h.symm; omega⟩) (fun _ _ => trivial) (Below.refl _ _) (Nat.le_trans hb0 hbw.size) (by omega) ?_; intro v1 w1 hR hB hg hat; have HR1 := Lib.hid hR; have hB1 : Below w.heap.size wr w1 := (Below.refl _ _).grown hg hbw.size (fun k hk => HW.out k hk); have HW1 := Lib.hid (own_after hat HW.out hbw.size); have HB1 := HB.out.below hB1; clear hR hB hg hat) | (at_builtin; refine Kd.R_append_rows kVn (Rr := kVn.M w1 b0 (fun k => k < w.heap.size)) (w0 := w1) b0 rfl _ _ 22 48 _ 72 rfl Try.underlying22 vn_info rfl (by decide) (by decide) v1 (o ++ l') m' B' m'.length d' (fun _ => True) (fun k => k < w.heap.size) rfl rfl HR1.out HB1.1 (fun _ _ h => h) (fun k hk => ⟨trivial, fun h => by have := HW1.out k h.symm; omega⟩) (fun _ _ => trivial) (Below.refl _ _) (Nat.le_trans hb0 (hbw.trans hB1).size) (by rw [List.length_append]; omega) ?_; intro v2 w2 hR hB hg hat; rw [← HME.out] at hR; have HRR := Lib.hid hR; have hB2 : Below w.heap.size w1 w2 := (Below.refl _ _).grown hg (hbw.trans hB1).size (fun k hk => HW1.out k hk); have HWW := Lib.hid (own_after hat HW1.out (hbw.trans hB1).size); have HNN := Lib.hid ((hbw.trans hB1).trans hB2); clear hR hB hg hat))
        go_ret
        exact ⟨_, rfl, HRR.out, HWW.out, HNN.out⟩
    · have t1 : decide (0 < l'.length) = false := decide_eq_false q1
      have t3 : decide ((0 : Int) < (l'.length : Int)) = false := decide_eq_false (by omega)
      have hme : mrg l m = (o ++ l') ++ m' := by rw [HM.out, mrg_end (.inl (by omega)), List.append_assoc]
      have HME := Lib.hid hme
      clear hme
      go_wp2_with (first | (at_builtin; refine Kd.R_append_rows kVn (Rr := kVn.M wr b0 (fun k => k < w.heap.size)) (w0 := wr) b0 rfl _ _ 22 48 _ 72 rfl Try.underlying22 vn_info rfl (by decide) (by decide) u7 o l' A' l'.length c' (fun _ => True) (fun k => k < w.heap.size) rfl rfl HO.out HA.out.1 (fun _ _ h => h) (fun k hk => ⟨trivial, fun h => by have := HW.out k h.symm; omega⟩) (fun _ _ => trivial) (Below.refl _ _) (Nat.le_trans hb0 hbw.size) (by omega) ?_; intro v1 w1 hR hB hg hat; have HR1 := Lib.hid hR; have hB1 : Below w.heap.size wr w1 := (Below.refl _ _).grown hg hbw.size (fun k hk => HW.out k hk); have HW1 := Lib.hid (own_after hat HW.out hbw.size); have HB1 := HB.out.below hB1; clear hR hB hg hat) | (at_builtin; refine Kd.R_append_rows kVn (Rr := kVn.M w1 b0 (fun k => k < w.heap.size)) (w0 := w1) b0 rfl _ _ 22 48 _ 72 rfl Try.underlying22 vn_info rfl (by decide) (by decide) v1 (o ++ l') m' B' m'.length d' (fun _ => True) (fun k => k < w.heap.size) rfl rfl HR1.out HB1.1 (fun _ _ h => h) (fun k hk => ⟨trivial, fun h => by have := HW1.out k h.symm; omega⟩) (fun _ _ => trivial) (Below.refl _ _) (Nat.le_trans hb0 (hbw.trans hB1).size) (by rw [List.length_append]; omega) ?_; intro v2 w2 hR hB hg hat; rw [← HME.out] at hR; have HRR := Lib.hid hR; have hB2 : Below w.heap.size w1 w2 := (Below.refl _ _).grown hg (hbw.trans hB1).size (fun k hk => HW1.out k hk); have HWW := Lib.hid (own_after hat HW1.out (hbw.trans hB1).size); have HNN := Lib.hid ((hbw.trans hB1).trans hB2); clear hR hB hg hat))
      go_ret
      exact ⟨_, rfl, HRR.out, HWW.out, HNN.out⟩
end Go.Proofs.Ytbhdehkdnenigaa

/- Walk: bucket.Right, which keeps the numbers that it has seen in a map: the plain law of a right value.
Walks: the test of delta.Right, slices.IndexFunc and ContainsFunc of it.
Plain laws of sorted lists of versions: right values, their parts, and what is merged.
Walk: delta.Apply.
The machine side of some functions of the law, as the kit's print wrote it for this claim: each function has the answers of a plain one.
Walks: the law's example, and its first line: the document's examples in short: it answers true.
Walk: the law's first line answers true.
Walk: the law DeltaSinces answers true.
Contracts of the calls that the laws are chains of; a new variable's box, and what is stored in it.
Plain laws: a right delta laid on a right value.
Walk: the law DeltaLaid. -/
import Derived.Maps.OwnOps
import Derived.Maps.Views
import Derived.Test.YtbhdehkdnenigaaQL3
set_option linter.unusedVariables false
set_option linter.unusedSimpArgs false
namespace Go.Proofs.Ytbhdehkdnenigaa
open Go.RowKit Go.Proofs.YtbhdehkdnenigaaW.PrintWords Go.Proofs.YtbhdehkdnenigaaW.PrintLast Go.Maps
attribute [local go_sem] Vn.val
theorem lawI : Keyed Try.prog 2 := int_keyed Try.underlying2
theorem zeroI (w : World) : (zeroValue 3).run Try.prog w = .ok (.int .i64 0) w := by kernel_rfl
theorem own_below {w w1 : World} {B b n : Nat} {D : DataW Unit} {R : Value → Option (DataW Unit × List MemPlace)} {kt : TypeId} (h : w.ownsMap Try.prog kt R b n D) (hb : Below B w w1) (hl : b < B) : w1.ownsMap Try.prog kt R b n D := by
  obtain ⟨es, clock, h1, h2⟩ := h
  exact ⟨es, clock, (hb.block b hl).trans h1, h2⟩
/-- the map of the numbers seen: each of the first k once -/
def Seen (l : List Vn) (k : Nat) (D : DataW Unit) : Prop := IsMap D ∧ ∀ z : Int, D.atKey (.int .i64 z) (.lit (.int .i64 0)) = .lit (.int .i64 (if (l.take k).any (fun v => v.seq == z) then 1 else 0))
def GdTo (l : List Vn) (nx : Int) (k : Nat) : Prop := ∀ i, i < k → gd l nx i = true
theorem GdTo.all {l : List Vn} {nx : Int} (h : GdTo l nx l.length) : gds l nx = true := by
  simp only [gds, List.all_eq_true, List.mem_range]
  exact h
theorem gds_bad {l : List Vn} {nx : Int} {k : Nat} (h : k < l.length) (h1 : gd l nx k = false) : gds l nx = false := by
  rw [Bool.eq_false_iff]
  intro h2
  simp only [gds, List.all_eq_true, List.mem_range] at h2
  rw [h2 k h] at h1
  cases h1
theorem rightV_bad {l : List Vn} {nx : Int} {k : Nat} (h : k < l.length) (h1 : gd l nx k = false) : rightV l nx = false := by
  simp [rightV, gds_bad h h1]
theorem GdTo.succ {l : List Vn} {nx : Int} {k : Nat} (h : GdTo l nx k) (h1 : gd l nx k = true) : GdTo l nx (k + 1) := fun i hi => by
  rcases (show i < k ∨ i = k by omega) with h2 | rfl
  · exact h i h2
  · exact h1
theorem seen_zero (l : List Vn) : Seen l 0 (.map []) := ⟨⟨[], rfl⟩, fun z => by simp; rfl⟩
theorem any_take (l : List Vn) (z : Int) : ∀ k, k ≤ l.length → (l.take k).any (fun v => v.seq == z) = !((List.range k).all fun j => (rdV l j).seq != z) := by
  intro k
  induction k with
  | zero => intro _; simp
  | succ k ih =>
    intro hk
    rw [List.take_succ_eq_append_getElem (show k < l.length by omega), List.any_append, ih (by omega), List.range_succ, List.all_append, rdV_at]
    simp only [List.any_cons, List.any_nil, Bool.or_false, List.all_cons, List.all_nil, Bool.and_true, Bool.not_and]
    congr 1
    simp [bne]
theorem seen_at {l : List Vn} {k : Nat} {D : DataW Unit} (h : Seen l k D) (hk : k ≤ l.length) {c z : Int} (hz : z = (rdV l k).seq) (hc : D.atKey (.int .i64 z) (.lit (.int .i64 0)) = .lit (.int .i64 c)) : c = if apartTo l k k = true then 0 else 1 := by
  subst hz
  rw [h.2, any_take l _ k hk] at hc
  have : c = if (!((List.range k).all fun j => (rdV l j).seq != (rdV l k).seq)) = true then 1 else 0 := by
    injection hc with h1
    injection h1 with _ h2
    exact h2.symm
  rw [this]
  show _ = if apartTo l k k = true then (0 : Int) else 1
  unfold apartTo
  cases (List.range k).all fun j => (rdV l j).seq != (rdV l k).seq <;> rfl
theorem seen_put {D : DataW Unit} (h : IsMap D) {z c : Int} {d : DataW Unit} (hc : (D.put (.int .i64 z) d).atKey (.int .i64 z) (.lit (.int .i64 0)) = .lit (.int .i64 c)) : d = .lit (.int .i64 c) := by
  rw [atKey_put_same h (by trivial)] at hc
  exact hc
theorem seen_succ {l : List Vn} {k : Nat} {D : DataW Unit} (h : Seen l k D) (hk : k < l.length) {z : Int} (hz : z = (rdV l k).seq) : Seen l (k + 1) (D.put (.int .i64 z) (.lit (.int .i64 1))) := by
  subst hz
  refine ⟨by obtain ⟨es, rfl⟩ := h.1; exact ⟨_, rfl⟩, fun z => ?_⟩
  rw [List.take_succ_eq_append_getElem hk, List.any_append, rdV_at]
  by_cases e : z = (rdV l k).seq
  · subst e
    rw [atKey_put_same h.1 (by trivial)]
    simp
  · rw [atKey_put_other (by intro h2; injection h2 with _ h3; exact e h3), h.2]
    have : ((rdV l k).seq == z) = false := by simpa using fun h3 => e h3.symm
    simp [this]
theorem seen_two {D : DataW Unit} (h : IsMap D) {z c m : Int} (hc : (D.put (.int .i64 z) (.lit (.int .i64 m))).atKey (.int .i64 z) (.lit (.int .i64 0)) = .lit (.int .i64 c)) : c = m := by
  have := seen_put h hc
  injection this with h1
  injection h1 with _ h2
  exact h2.symm
theorem wf_seq {z nx : Int} (h1 : ¬ z < 1) (h2 : ¬ nx ≤ z) (h3 : nx ≤ 1099511627777) : (Lit.int .i64 z).wf = true := by
  simp only [Lit.wf, IntKind.min, IntKind.max, IntKind.signed, IntKind.bits, Bool.and_eq_true, decide_eq_true_eq, if_true]
  omega
theorem by_ver {r : Int} {b : Bool} (h : (r == 0) = b) : (r != 0) = !b := by rw [bne, h]
theorem gd_no {l : List Vn} {nx : Int} {k : Nat} {x : Vn} (hx : rdV l k = x) (h : wel x = false ∨ x.seq < 1 ∨ nx ≤ x.seq ∨ (k ≠ 0 ∧ va (rdV l (k - 1)) x = false) ∨ apartTo l k k = false) : gd l nx k = false := by
  subst hx
  unfold gd
  rcases h with h | h | h | ⟨h0, h⟩ | h
  · rw [h]; rfl
  · rw [decide_eq_false (show ¬ 1 ≤ (rdV l k).seq by omega)]; simp
  · rw [decide_eq_false (show ¬ (rdV l k).seq < nx by omega)]; simp
  · rw [h, show (k == 0) = false by simpa using h0]; simp
  · rw [h]; simp
theorem gd_yes {l : List Vn} {nx : Int} {k : Nat} {x : Vn} (hx : rdV l k = x) (h1 : wel x = true) (h2 : ¬ x.seq < 1) (h3 : ¬ nx ≤ x.seq) (h4 : k = 0 ∨ va (rdV l (k - 1)) x = true) (h5 : apartTo l k k = true) : gd l nx k = true := by
  subst hx
  unfold gd
  rw [h1, h5, decide_eq_true (show 1 ≤ (rdV l k).seq by omega), decide_eq_true (show (rdV l k).seq < nx by omega)]
  rcases h4 with h | h
  · simp [h]
  · simp [h]
def bR.T7 : Bool × List (List Nat × List Nat) := (true, [([], []), ([0], [0]), ([1], [1]), ([2], [2]), ([3], [3]), ([4, 3], [3, 4]), ([3], [3]), ([6, 3], [3, 6]), ([5, 7, 3], [3, 5, 7]), ([3, 8], [3, 8]), ([9, 3], [9]), ([10], [10]), ([11, 10, 10], [10, 11]), ([12, 10], [10, 12]), ([10, 13], [10, 13]), ([14, 12], [14]), ([15], [15]), ([16, 15], [15, 16]), ([17, 15, 15], [15, 17]), ([18], [18]), ([19, 18], [18, 19]), ([18], [18]), ([21, 18], [18, 21]), ([20, 22, 18], [18, 20, 22]), ([23, 18], [18, 23]), ([18], [18]), ([24, 25, 18, 18], [18, 24, 25]), ([26, 18], [18, 26]), ([18, 27, 15], [15, 18, 27]), ([15, 28], [15, 28])])
def bR.B7 : List Nat := [0, 1, 3, 7, 15, 31, 15, 79, 255, 511, 1023, 2047, 4095, 8191, 16383, 32767, 65535, 131071, 262143, 524287, 1048575, 524287, 2621439, 8388607, 16777215, 524287, 67108863, 134217727, 268435455, 536870911]
theorem bR.tab7 : rtab .any (opsOf Try.f33 7) = bR.T7 := by kernel_rfl
theorem bR.bits7 : waitsOk bR.T7.2 bR.B7 = true := by kernel_rfl
theorem elem_below {w w1 : World} {a : Addr} {l : List Vn} {j : Nat} (h : ∃ ad A4 c4, some a = some ad ∧ w.cell? (ad.add (j * 5)) = some (.string (rdV l j).key) ∧ w.cell? ⟨(ad.add (j * 5)).block, (ad.add (j * 5)).off + 1, none⟩ = some (.int .i64 (rdV l j).seq) ∧ w.cell? ⟨(ad.add (j * 5)).block, (ad.add (j * 5)).off + 2, none⟩ = some (.bool (rdV l j).gone) ∧ w.cell? ⟨(ad.add (j * 5)).block, (ad.add (j * 5)).off + 3, none⟩ = some (.string (rdV l j).data) ∧ w.cell? ⟨(ad.add (j * 5)).block, (ad.add (j * 5)).off + 4, none⟩ = some (.slice A4 (rdV l j).pairs.length c4) ∧ (rdV l j).pairs.length ≤ c4 ∧ kPr.C w A4 (rdV l j).pairs.length (rdV l j).pairs) (hb : Below w.heap.size w w1) :
    ∃ B4 d4, w1.cell? (a.add (j * 5)) = some (.string (rdV l j).key) ∧ w1.cell? ⟨(a.add (j * 5)).block, (a.add (j * 5)).off + 1, none⟩ = some (.int .i64 (rdV l j).seq) ∧ w1.cell? ⟨(a.add (j * 5)).block, (a.add (j * 5)).off + 2, none⟩ = some (.bool (rdV l j).gone) ∧ w1.cell? ⟨(a.add (j * 5)).block, (a.add (j * 5)).off + 3, none⟩ = some (.string (rdV l j).data) ∧ w1.cell? ⟨(a.add (j * 5)).block, (a.add (j * 5)).off + 4, none⟩ = some (.slice B4 (rdV l j).pairs.length d4) := by
  obtain ⟨ad, A4, c4, e, h1, h2, h3, h4, h5, _, _⟩ := h
  cases e
  exact ⟨A4, c4, pw_cell_below hb h1, pw_cell_below hb h2, pw_cell_below hb h3, pw_cell_below hb h4, pw_cell_below hb h5⟩
set_option maxRecDepth 100000 in
set_option maxHeartbeats 4000000 in
theorem bRight_any (l : List Vn) (nx : Int) (A : Option Addr) (c : Nat) (w : World) (hC : kVn.C w A l.length l) (hl : l.length ≤ c) (HF : ∀ x ∈ l, x.Fits) :
    Calls Try.prog 33 #[.agg #[.int .i64 nx, .slice A l.length c]] w fun e w' => e = .returned (.bool (rightV l nx)) ∧ Below w.heap.size w w' := by
  have HC := Lib.hid hC
  have HBs := fun w' (h : Below w.heap.size w w') => Lib.hid (bytes_any l nx A c w' (Kd.C_below hC h) hl HF)
  have hml := hC.2.1
  clear hC
  have hmm := @run_makeMap Try.prog
  by_cases n1 : 1 ≤ nx ∧ nx ≤ 1099511627777 ∧ l.length ≤ 256
  · obtain ⟨n1, n2, n3⟩ := n1
    have t1 : decide (nx < 1) = false := by simp; omega
    have t2 : decide (1099511627777 < nx) = false := by simp; omega
    have t3 : decide ((256 : Int) < (l.length : Int)) = false := by simp; omega
    by_cases n4 : wrap64 (bsize l) ≤ 65536
    · have t4 : decide ((65536 : Int) < wrap64 (bsize l)) = false := by simp; omega
      go_enter Try.func33, Try.ntmps33
      go_wp2_with (first | (go_at_call 35; refine (HBs _ (below1 _ _)).out.mono ?_; rintro e wm ⟨rfl, hb2⟩; have hb3 := hb2.alloc hb2.size (.map #[] 0); have m0 := box_cell hb3 (i := 0) rfl; have m1 := box_cell hb3 (i := 1) rfl; have m01 : wm.cell? ⟨w.heap.size, 0, none⟩ = some (.int .i64 nx) := box_cell hb2 (i := 0) rfl; have m11 : wm.cell? ⟨w.heap.size, 1, none⟩ = some (.slice A l.length c) := box_cell hb2 (i := 1) rfl; have hbw := box_below hb2; have hww := hb2.size; rw [alloc_size] at hww))
      go_loopw [29] (fun i wr => ∃ (k : Nat) (D : DataW Unit), k ≤ l.length ∧ i = .int .i64 k ∧ Hid (GdTo l nx k) ∧ Hid (Seen l k D) ∧ wr.ownsMap Try.prog 2 (plainElem Try.prog 3) wm.heap.size k D ∧ Below wm.heap.size wm wr ∧ wm.heap.size + 1 ≤ wr.heap.size) (fun i _ => l.length - (intOf i).toNat)
      case atStart => exact ⟨0, .map [], Nat.zero_le _, rfl, fun i hi => absurd hi (Nat.not_lt_zero _), seen_zero l, World.ownsMap_made _ _ _ _, (Below.refl _ _).alloc (Nat.le_refl _) _, by simp [go_sem]⟩
      case round =>
        obtain ⟨k, D, hk, rfl, HG, HS, hown, hbr, hsz⟩ := hrel
        have N4 := Lib.hid n4
        clear n4 t1 t2 t3 t4
        have HCw := Kd.C_below HC.out (hbw.trans (hbr.mono hbw.size))
        by_cases hlt : k < l.length
        · obtain ⟨ad, A4, c4, rfl, h1, h2, h3, h4, h5, h6, h7⟩ := kVn_rd HCw k hlt
          have hX := HF _ (rdV_mem hlt)
          have HP := fun (hk0 : k ≠ 0) => Lib.hid (kVn_rd HCw (k - 1) (by omega))
          have r0 : wr.cell? ⟨w.heap.size, 0, none⟩ = some (.int .i64 nx) := (hbr.cell (p := ⟨w.heap.size, 0, none⟩) (by exact hww)).trans m01
          have r1 : wr.cell? ⟨w.heap.size, 1, none⟩ = some (.slice (some ad) l.length c) := (hbr.cell (p := ⟨w.heap.size, 1, none⟩) (by exact hww)).trans m11
          have hxx : ∃ x, rdV l k = x := ⟨_, rfl⟩
          obtain ⟨x, hx⟩ := hxx
          rw [hx] at h1 h2 h3 h4 h5 h6 h7 hX
          have HX := Lib.hid hx
          clear hx HCw m01 m11
          go_upto_region 7 with fail
          have hr1 := below1 wr (.cells #[.string x.key, .int .i64 x.seq, .bool x.gone, .string x.data, .slice A4 x.pairs.length c4] 48)
          have v0 : (wr.alloc (.cells #[.string x.key, .int .i64 x.seq, .bool x.gone, .string x.data, .slice A4 x.pairs.length c4] 48)).cell? ⟨wr.heap.size, 0, none⟩ = some (.string x.key) := box_cell (Below.refl _ _) (i := 0) rfl
          have v1 : (wr.alloc (.cells #[.string x.key, .int .i64 x.seq, .bool x.gone, .string x.data, .slice A4 x.pairs.length c4] 48)).cell? ⟨wr.heap.size, 1, none⟩ = some (.int .i64 x.seq) := box_cell (Below.refl _ _) (i := 1) rfl
          have v2 : (wr.alloc (.cells #[.string x.key, .int .i64 x.seq, .bool x.gone, .string x.data, .slice A4 x.pairs.length c4] 48)).cell? ⟨wr.heap.size, 2, none⟩ = some (.bool x.gone) := box_cell (Below.refl _ _) (i := 2) rfl
          have v3 : (wr.alloc (.cells #[.string x.key, .int .i64 x.seq, .bool x.gone, .string x.data, .slice A4 x.pairs.length c4] 48)).cell? ⟨wr.heap.size, 3, none⟩ = some (.string x.data) := box_cell (Below.refl _ _) (i := 3) rfl
          have v4 : (wr.alloc (.cells #[.string x.key, .int .i64 x.seq, .bool x.gone, .string x.data, .slice A4 x.pairs.length c4] 48)).cell? ⟨wr.heap.size, 4, none⟩ = some (.slice A4 x.pairs.length c4) := box_cell (Below.refl _ _) (i := 4) rfl
          have b0 := pw_cell_below hr1 r0
          have b1 := pw_cell_below hr1 r1
          have own1 := own_below hown hr1 hsz
          have hgv := hsz
          have hbW := hbr.trans (hr1.mono (by omega))
          have hszW : wm.heap.size + 1 ≤ (wr.alloc (.cells #[.string x.key, .int .i64 x.seq, .bool x.gone, .string x.data, .slice A4 x.pairs.length c4] 48)).heap.size := Nat.le_trans hsz hr1.size
          have h7W := Kd.C_below h7 hr1
          have HP1 := fun (hk0 : k ≠ 0) => Lib.hid (elem_below (HP hk0).out hr1)
          clear HP h1 h2 h3 h4 h5 h7 r0 r1 hown hbr hsz
          generalize (wr.alloc (.cells #[.string x.key, .int .i64 x.seq, .bool x.gone, .string x.data, .slice A4 x.pairs.length c4] 48)) = W at *
          generalize wr.heap.size = gv at *
          have HV := fun w' h => Lib.hid (version_any x A4 c4 w' (Kd.C_below h7W h) h6 hX)
          by_cases q1 : x.seq < 1
          · have s1 : decide (x.seq < 1) = true := decide_eq_true q1
            have hbad := Lib.hid (rightV_bad hlt (gd_no (nx := nx) HX.out (.inr (.inl q1))))
            refine start_ (n := 30) (S := fun w' => w'.cell? ⟨gv, 0, none⟩ = some (.string x.key) ∧ w'.cell? ⟨gv, 1, none⟩ = some (.int .i64 x.seq) ∧ w'.cell? ⟨gv, 2, none⟩ = some (.bool x.gone) ∧ w'.cell? ⟨gv, 3, none⟩ = some (.string x.data) ∧ w'.cell? ⟨gv, 4, none⟩ = some (.slice A4 x.pairs.length c4) ∧ w'.cell? ⟨w.heap.size, 0, none⟩ = some (.int .i64 nx) ∧ w'.cell? ⟨w.heap.size, 1, none⟩ = some (.slice (some ad) l.length c)) (ds := []) #[false, false, false, false, false, false, false, false, false, false, false, false, false, false, false, false, false, false, false, false, false, false, false, false, false, false, false, false, false, false] (by kernel_rfl) rfl rfl ⟨v0, v1, v2, v3, v4, b0, b1⟩ (fun hHeld => ?_)
            refine with_tabW bR.tab7 bR.bits7 (fun HT_ HW_ => ?_)
            refine pure_ (i := 0) (N := some 34) (v := ?_) (a' := ?_) #[true, false, false, false, false, false, false, false, false, false, false, false, false, false, false, false, false, false, false, false, false, false, false, false, false, false, false, false, false, false] rfl rfl (any_of HT_.out (by kernel_rfl)) (fun _ _ _ h => h) (Or.inl ⟨by rfl, ?_⟩) ?_ ?_
            rotate_left
            · intro w'
              go_simp
              with_reducible rfl
            rotate_left
            · simp only [Act.put, List.setIfInBounds_toArray, List.set_cons_zero, List.set_cons_succ, i64_w, i32_w]
              rfl
            refine take_ (i := 1) (N := some 35) (v := ?_) (a' := ?_) #[true, true, false, false, false, false, false, false, false, false, false, false, false, false, false, false, false, false, false, false, false, false, false, false, false, false, false, false, false, false] rfl rfl (take_ofW HT_.out HW_.out (by kernel_rfl)) (fun _ _ _ h => h) (Or.inl ⟨by rfl, ?_⟩) hHeld ?_ ?_
            rotate_left
            · rintro w' ⟨s0, s1, s2, s3, s4, s5, s6⟩
              go_simp
              with_reducible rfl
            rotate_left
            · simp only [Act.put, List.setIfInBounds_toArray, List.set_cons_zero, List.set_cons_succ, i64_w, i32_w]
              rfl
            refine pure_ (i := 2) (N := some 36) (v := ?_) (a' := ?_) #[true, true, true, false, false, false, false, false, false, false, false, false, false, false, false, false, false, false, false, false, false, false, false, false, false, false, false, false, false, false] rfl rfl (any_of HT_.out (by kernel_rfl)) (fun _ _ _ h => h) (Or.inl ⟨by rfl, ?_⟩) ?_ ?_
            rotate_left
            · intro w'
              go_simp
              with_reducible rfl
            rotate_left
            · simp only [Act.put, List.setIfInBounds_toArray, List.set_cons_zero, List.set_cons_succ, i64_w, i32_w]
              rfl
            refine pure_ (i := 3) (N := some 37) (v := ?_) (a' := ?_) #[true, true, true, true, false, false, false, false, false, false, false, false, false, false, false, false, false, false, false, false, false, false, false, false, false, false, false, false, false, false] rfl rfl (any_of HT_.out (by kernel_rfl)) (fun _ _ _ h => h) (Or.inl ⟨by rfl, ?_⟩) ?_ ?_
            rotate_left
            · intro w'
              go_simp
              with_reducible rfl
            rotate_left
            · simp only [Act.put, List.setIfInBounds_toArray, List.set_cons_zero, List.set_cons_succ, i64_w, i32_w]
              rfl
            refine pure_ (i := 4) (N := some 38) (v := undef) (a' := ?_) #[true, true, true, true, true, false, false, false, false, false, false, false, false, false, false, false, false, false, false, false, false, false, false, false, false, false, false, false, false, false] rfl rfl (any_of HT_.out (by kernel_rfl)) (fun _ _ _ h => h) (Or.inr ⟨by rfl, rfl⟩) ?_ ?_
            rotate_left
            · simp only [Act.put, List.setIfInBounds_toArray, List.set_cons_zero, List.set_cons_succ, i64_w, i32_w]
              rfl
            refine pure_ (i := 5) (N := some 39) (v := undef) (a' := ?_) #[true, true, true, true, true, true, false, false, false, false, false, false, false, false, false, false, false, false, false, false, false, false, false, false, false, false, false, false, false, false] rfl rfl (any_of HT_.out (by kernel_rfl)) (fun _ _ _ h => h) (Or.inr ⟨by rfl, rfl⟩) ?_ ?_
            rotate_left
            · simp only [Act.put, List.setIfInBounds_toArray, List.set_cons_zero, List.set_cons_succ, i64_w, i32_w]
              rfl
            refine pure_ (i := 6) (N := some 40) (v := undef) (a' := ?_) #[true, true, true, true, true, true, true, false, false, false, false, false, false, false, false, false, false, false, false, false, false, false, false, false, false, false, false, false, false, false] rfl rfl (any_of HT_.out (by kernel_rfl)) (fun _ _ _ h => h) (Or.inr ⟨by rfl, rfl⟩) ?_ ?_
            rotate_left
            · simp only [Act.put, List.setIfInBounds_toArray, List.set_cons_zero, List.set_cons_succ, i64_w, i32_w]
              rfl
            refine pure_ (i := 7) (N := some 41) (v := undef) (a' := ?_) #[true, true, true, true, true, true, true, true, false, false, false, false, false, false, false, false, false, false, false, false, false, false, false, false, false, false, false, false, false, false] rfl rfl (any_of HT_.out (by kernel_rfl)) (fun _ _ _ h => h) (Or.inr ⟨by rfl, rfl⟩) ?_ ?_
            rotate_left
            · simp only [Act.put, List.setIfInBounds_toArray, List.set_cons_zero, List.set_cons_succ, i64_w, i32_w]
              rfl
            refine pure_ (i := 8) (N := some 42) (v := undef) (a' := ?_) #[true, true, true, true, true, true, true, true, true, false, false, false, false, false, false, false, false, false, false, false, false, false, false, false, false, false, false, false, false, false] rfl rfl (any_of HT_.out (by kernel_rfl)) (fun _ _ _ h => h) (Or.inr ⟨by rfl, rfl⟩) ?_ ?_
            rotate_left
            · simp only [Act.put, List.setIfInBounds_toArray, List.set_cons_zero, List.set_cons_succ, i64_w, i32_w]
              rfl
            refine pure_ (i := 9) (N := some 43) (v := ?_) (a' := ?_) #[true, true, true, true, true, true, true, true, true, true, false, false, false, false, false, false, false, false, false, false, false, false, false, false, false, false, false, false, false, false] rfl rfl (any_of HT_.out (by kernel_rfl)) (fun _ _ _ h => h) (Or.inl ⟨by rfl, ?_⟩) ?_ ?_
            rotate_left
            · intro w'
              go_simp
              with_reducible rfl
            rotate_left
            · simp only [Act.put, List.setIfInBounds_toArray, List.set_cons_zero, List.set_cons_succ, i64_w, i32_w]
              rfl
            refine pure_ (i := 10) (N := some 44) (v := ?_) (a' := ?_) #[true, true, true, true, true, true, true, true, true, true, true, false, false, false, false, false, false, false, false, false, false, false, false, false, false, false, false, false, false, false] rfl rfl (any_of HT_.out (by kernel_rfl)) (fun _ _ _ h => h) (Or.inl ⟨by rfl, ?_⟩) ?_ ?_
            rotate_left
            · intro w'
              go_simp
              with_reducible rfl
            rotate_left
            · simp only [Act.put, List.setIfInBounds_toArray, List.set_cons_zero, List.set_cons_succ, i64_w, i32_w]
              rfl
            refine pure_ (i := 11) (N := some 45) (v := undef) (a' := ?_) #[true, true, true, true, true, true, true, true, true, true, true, true, false, false, false, false, false, false, false, false, false, false, false, false, false, false, false, false, false, false] rfl rfl (any_of HT_.out (by kernel_rfl)) (fun _ _ _ h => h) (Or.inr ⟨by rfl, rfl⟩) ?_ ?_
            rotate_left
            · simp only [Act.put, List.setIfInBounds_toArray, List.set_cons_zero, List.set_cons_succ, i64_w, i32_w]
              rfl
            refine pure_ (i := 12) (N := some 46) (v := undef) (a' := ?_) #[true, true, true, true, true, true, true, true, true, true, true, true, true, false, false, false, false, false, false, false, false, false, false, false, false, false, false, false, false, false] rfl rfl (any_of HT_.out (by kernel_rfl)) (fun _ _ _ h => h) (Or.inr ⟨by rfl, rfl⟩) ?_ ?_
            rotate_left
            · simp only [Act.put, List.setIfInBounds_toArray, List.set_cons_zero, List.set_cons_succ, i64_w, i32_w]
              rfl
            refine pure_ (i := 13) (N := some 47) (v := undef) (a' := ?_) #[true, true, true, true, true, true, true, true, true, true, true, true, true, true, false, false, false, false, false, false, false, false, false, false, false, false, false, false, false, false] rfl rfl (any_of HT_.out (by kernel_rfl)) (fun _ _ _ h => h) (Or.inr ⟨by rfl, rfl⟩) ?_ ?_
            rotate_left
            · simp only [Act.put, List.setIfInBounds_toArray, List.set_cons_zero, List.set_cons_succ, i64_w, i32_w]
              rfl
            refine pure_ (i := 14) (N := some 48) (v := ?_) (a' := ?_) #[true, true, true, true, true, true, true, true, true, true, true, true, true, true, true, false, false, false, false, false, false, false, false, false, false, false, false, false, false, false] rfl rfl (any_of HT_.out (by kernel_rfl)) (fun _ _ _ h => h) (Or.inl ⟨by rfl, ?_⟩) ?_ ?_
            rotate_left
            · intro w'
              go_simp
              with_reducible rfl
            rotate_left
            · simp only [Act.put, List.setIfInBounds_toArray, List.set_cons_zero, List.set_cons_succ, i64_w, i32_w]
              rfl
            refine pure_ (i := 15) (N := some 49) (v := ?_) (a' := ?_) #[true, true, true, true, true, true, true, true, true, true, true, true, true, true, true, true, false, false, false, false, false, false, false, false, false, false, false, false, false, false] rfl rfl (any_of HT_.out (by kernel_rfl)) (fun _ _ _ h => h) (Or.inl ⟨by rfl, ?_⟩) ?_ ?_
            rotate_left
            · intro w'
              go_simp
              with_reducible rfl
            rotate_left
            · simp only [Act.put, List.setIfInBounds_toArray, List.set_cons_zero, List.set_cons_succ, i64_w, i32_w]
              rfl
            refine pure_ (i := 16) (N := some 50) (v := undef) (a' := ?_) #[true, true, true, true, true, true, true, true, true, true, true, true, true, true, true, true, true, false, false, false, false, false, false, false, false, false, false, false, false, false] rfl rfl (any_of HT_.out (by kernel_rfl)) (fun _ _ _ h => h) (Or.inr ⟨by rfl, rfl⟩) ?_ ?_
            rotate_left
            · simp only [Act.put, List.setIfInBounds_toArray, List.set_cons_zero, List.set_cons_succ, i64_w, i32_w]
              rfl
            refine pure_ (i := 17) (N := some 51) (v := undef) (a' := ?_) #[true, true, true, true, true, true, true, true, true, true, true, true, true, true, true, true, true, true, false, false, false, false, false, false, false, false, false, false, false, false] rfl rfl (any_of HT_.out (by kernel_rfl)) (fun _ _ _ h => h) (Or.inr ⟨by rfl, rfl⟩) ?_ ?_
            rotate_left
            · simp only [Act.put, List.setIfInBounds_toArray, List.set_cons_zero, List.set_cons_succ, i64_w, i32_w]
              rfl
            refine pure_ (i := 18) (N := some 52) (v := undef) (a' := ?_) #[true, true, true, true, true, true, true, true, true, true, true, true, true, true, true, true, true, true, true, false, false, false, false, false, false, false, false, false, false, false] rfl rfl (any_of HT_.out (by kernel_rfl)) (fun _ _ _ h => h) (Or.inr ⟨by rfl, rfl⟩) ?_ ?_
            rotate_left
            · simp only [Act.put, List.setIfInBounds_toArray, List.set_cons_zero, List.set_cons_succ, i64_w, i32_w]
              rfl
            refine pure_ (i := 19) (N := some 53) (v := undef) (a' := ?_) #[true, true, true, true, true, true, true, true, true, true, true, true, true, true, true, true, true, true, true, true, false, false, false, false, false, false, false, false, false, false] rfl rfl (any_of HT_.out (by kernel_rfl)) (fun _ _ _ h => h) (Or.inr ⟨by rfl, rfl⟩) ?_ ?_
            rotate_left
            · simp only [Act.put, List.setIfInBounds_toArray, List.set_cons_zero, List.set_cons_succ, i64_w, i32_w]
              rfl
            refine pure_ (i := 20) (N := some 54) (v := undef) (a' := ?_) #[true, true, true, true, true, true, true, true, true, true, true, true, true, true, true, true, true, true, true, true, true, false, false, false, false, false, false, false, false, false] rfl rfl (any_of HT_.out (by kernel_rfl)) (fun _ _ _ h => h) (Or.inr ⟨by rfl, rfl⟩) ?_ ?_
            rotate_left
            · simp only [Act.put, List.setIfInBounds_toArray, List.set_cons_zero, List.set_cons_succ, i64_w, i32_w]
              rfl
            refine pure_ (i := 21) (N := some 55) (v := undef) (a' := ?_) #[true, true, true, true, true, true, true, true, true, true, true, true, true, true, true, true, true, true, true, true, true, true, false, false, false, false, false, false, false, false] rfl rfl (any_of HT_.out (by kernel_rfl)) (fun _ _ _ h => h) (Or.inr ⟨by rfl, rfl⟩) ?_ ?_
            rotate_left
            · simp only [Act.put, List.setIfInBounds_toArray, List.set_cons_zero, List.set_cons_succ, i64_w, i32_w]
              rfl
            refine pure_ (i := 22) (N := some 56) (v := undef) (a' := ?_) #[true, true, true, true, true, true, true, true, true, true, true, true, true, true, true, true, true, true, true, true, true, true, true, false, false, false, false, false, false, false] rfl rfl (any_of HT_.out (by kernel_rfl)) (fun _ _ _ h => h) (Or.inr ⟨by rfl, rfl⟩) ?_ ?_
            rotate_left
            · simp only [Act.put, List.setIfInBounds_toArray, List.set_cons_zero, List.set_cons_succ, i64_w, i32_w]
              rfl
            refine pure_ (i := 23) (N := some 57) (v := undef) (a' := ?_) #[true, true, true, true, true, true, true, true, true, true, true, true, true, true, true, true, true, true, true, true, true, true, true, true, false, false, false, false, false, false] rfl rfl (any_of HT_.out (by kernel_rfl)) (fun _ _ _ h => h) (Or.inr ⟨by rfl, rfl⟩) ?_ ?_
            rotate_left
            · simp only [Act.put, List.setIfInBounds_toArray, List.set_cons_zero, List.set_cons_succ, i64_w, i32_w]
              rfl
            refine pure_ (i := 24) (N := some 58) (v := undef) (a' := ?_) #[true, true, true, true, true, true, true, true, true, true, true, true, true, true, true, true, true, true, true, true, true, true, true, true, true, false, false, false, false, false] rfl rfl (any_of HT_.out (by kernel_rfl)) (fun _ _ _ h => h) (Or.inr ⟨by rfl, rfl⟩) ?_ ?_
            rotate_left
            · simp only [Act.put, List.setIfInBounds_toArray, List.set_cons_zero, List.set_cons_succ, i64_w, i32_w]
              rfl
            refine pure_ (i := 25) (N := some 59) (v := undef) (a' := ?_) #[true, true, true, true, true, true, true, true, true, true, true, true, true, true, true, true, true, true, true, true, true, true, true, true, true, true, false, false, false, false] rfl rfl (any_of HT_.out (by kernel_rfl)) (fun _ _ _ h => h) (Or.inr ⟨by rfl, rfl⟩) ?_ ?_
            rotate_left
            · simp only [Act.put, List.setIfInBounds_toArray, List.set_cons_zero, List.set_cons_succ, i64_w, i32_w]
              rfl
            refine pure_ (i := 26) (N := some 60) (v := undef) (a' := ?_) #[true, true, true, true, true, true, true, true, true, true, true, true, true, true, true, true, true, true, true, true, true, true, true, true, true, true, true, false, false, false] rfl rfl (any_of HT_.out (by kernel_rfl)) (fun _ _ _ h => h) (Or.inr ⟨by rfl, rfl⟩) ?_ ?_
            rotate_left
            · simp only [Act.put, List.setIfInBounds_toArray, List.set_cons_zero, List.set_cons_succ, i64_w, i32_w]
              rfl
            refine pure_ (i := 27) (N := some 61) (v := undef) (a' := ?_) #[true, true, true, true, true, true, true, true, true, true, true, true, true, true, true, true, true, true, true, true, true, true, true, true, true, true, true, true, false, false] rfl rfl (any_of HT_.out (by kernel_rfl)) (fun _ _ _ h => h) (Or.inr ⟨by rfl, rfl⟩) ?_ ?_
            rotate_left
            · simp only [Act.put, List.setIfInBounds_toArray, List.set_cons_zero, List.set_cons_succ, i64_w, i32_w]
              rfl
            refine pure_ (i := 28) (N := some 62) (v := undef) (a' := ?_) #[true, true, true, true, true, true, true, true, true, true, true, true, true, true, true, true, true, true, true, true, true, true, true, true, true, true, true, true, true, false] rfl rfl (any_of HT_.out (by kernel_rfl)) (fun _ _ _ h => h) (Or.inr ⟨by rfl, rfl⟩) ?_ ?_
            rotate_left
            · simp only [Act.put, List.setIfInBounds_toArray, List.set_cons_zero, List.set_cons_succ, i64_w, i32_w]
              rfl
            refine pure_ (i := 29) (N := some 63) (v := ?_) (a' := ?_) #[true, true, true, true, true, true, true, true, true, true, true, true, true, true, true, true, true, true, true, true, true, true, true, true, true, true, true, true, true, true] rfl rfl (any_of HT_.out (by kernel_rfl)) (fun _ _ _ h => h) (Or.inl ⟨by rfl, ?_⟩) ?_ ?_
            rotate_left
            · intro w'
              go_simp
              with_reducible rfl
            rotate_left
            · simp only [Act.put, List.setIfInBounds_toArray, List.set_cons_zero, List.set_cons_succ, i64_w, i32_w]
              rfl
            refine done_ (done_of HT_.out (by kernel_rfl)) ?_
            go_wp2
            go_ret
            exact ⟨ret_bool hbad.out.symm, (hbw.trans (hbW.mono (by omega))).drew⟩
          · have s1 : decide (x.seq < 1) = false := decide_eq_false q1
            by_cases q2 : nx ≤ x.seq
            · have s2 : decide (nx ≤ x.seq) = true := decide_eq_true q2
              have hbad := Lib.hid (rightV_bad hlt (gd_no (nx := nx) HX.out (.inr (.inr (.inl q2)))))
              refine start_ (n := 30) (S := fun w' => w'.cell? ⟨gv, 0, none⟩ = some (.string x.key) ∧ w'.cell? ⟨gv, 1, none⟩ = some (.int .i64 x.seq) ∧ w'.cell? ⟨gv, 2, none⟩ = some (.bool x.gone) ∧ w'.cell? ⟨gv, 3, none⟩ = some (.string x.data) ∧ w'.cell? ⟨gv, 4, none⟩ = some (.slice A4 x.pairs.length c4) ∧ w'.cell? ⟨w.heap.size, 0, none⟩ = some (.int .i64 nx) ∧ w'.cell? ⟨w.heap.size, 1, none⟩ = some (.slice (some ad) l.length c)) (ds := []) #[false, false, false, false, false, false, false, false, false, false, false, false, false, false, false, false, false, false, false, false, false, false, false, false, false, false, false, false, false, false] (by kernel_rfl) rfl rfl ⟨v0, v1, v2, v3, v4, b0, b1⟩ (fun hHeld => ?_)
              refine with_tabW bR.tab7 bR.bits7 (fun HT_ HW_ => ?_)
              refine pure_ (i := 0) (N := some 34) (v := ?_) (a' := ?_) #[true, false, false, false, false, false, false, false, false, false, false, false, false, false, false, false, false, false, false, false, false, false, false, false, false, false, false, false, false, false] rfl rfl (any_of HT_.out (by kernel_rfl)) (fun _ _ _ h => h) (Or.inl ⟨by rfl, ?_⟩) ?_ ?_
              rotate_left
              · intro w'
                go_simp
                with_reducible rfl
              rotate_left
              · simp only [Act.put, List.setIfInBounds_toArray, List.set_cons_zero, List.set_cons_succ, i64_w, i32_w]
                rfl
              refine take_ (i := 1) (N := some 35) (v := ?_) (a' := ?_) #[true, true, false, false, false, false, false, false, false, false, false, false, false, false, false, false, false, false, false, false, false, false, false, false, false, false, false, false, false, false] rfl rfl (take_ofW HT_.out HW_.out (by kernel_rfl)) (fun _ _ _ h => h) (Or.inl ⟨by rfl, ?_⟩) hHeld ?_ ?_
              rotate_left
              · rintro w' ⟨s0, s1, s2, s3, s4, s5, s6⟩
                go_simp
                with_reducible rfl
              rotate_left
              · simp only [Act.put, List.setIfInBounds_toArray, List.set_cons_zero, List.set_cons_succ, i64_w, i32_w]
                rfl
              refine pure_ (i := 2) (N := some 36) (v := ?_) (a' := ?_) #[true, true, true, false, false, false, false, false, false, false, false, false, false, false, false, false, false, false, false, false, false, false, false, false, false, false, false, false, false, false] rfl rfl (any_of HT_.out (by kernel_rfl)) (fun _ _ _ h => h) (Or.inl ⟨by rfl, ?_⟩) ?_ ?_
              rotate_left
              · intro w'
                go_simp
                with_reducible rfl
              rotate_left
              · simp only [Act.put, List.setIfInBounds_toArray, List.set_cons_zero, List.set_cons_succ, i64_w, i32_w]
                rfl
              refine pure_ (i := 3) (N := some 37) (v := ?_) (a' := ?_) #[true, true, true, true, false, false, false, false, false, false, false, false, false, false, false, false, false, false, false, false, false, false, false, false, false, false, false, false, false, false] rfl rfl (any_of HT_.out (by kernel_rfl)) (fun _ _ _ h => h) (Or.inl ⟨by rfl, ?_⟩) ?_ ?_
              rotate_left
              · intro w'
                go_simp
                with_reducible rfl
              rotate_left
              · simp only [Act.put, List.setIfInBounds_toArray, List.set_cons_zero, List.set_cons_succ, i64_w, i32_w]
                rfl
              refine pure_ (i := 4) (N := some 38) (v := ?_) (a' := ?_) #[true, true, true, true, true, false, false, false, false, false, false, false, false, false, false, false, false, false, false, false, false, false, false, false, false, false, false, false, false, false] rfl rfl (any_of HT_.out (by kernel_rfl)) (fun _ _ _ h => h) (Or.inl ⟨by rfl, ?_⟩) ?_ ?_
              rotate_left
              · intro w'
                go_simp
                with_reducible rfl
              rotate_left
              · simp only [Act.put, List.setIfInBounds_toArray, List.set_cons_zero, List.set_cons_succ, i64_w, i32_w]
                rfl
              refine pure_ (i := 6) (N := some 40) (v := ?_) (a' := ?_) #[true, true, true, true, true, false, true, false, false, false, false, false, false, false, false, false, false, false, false, false, false, false, false, false, false, false, false, false, false, false] rfl rfl (any_of HT_.out (by kernel_rfl)) (fun _ _ _ h => h) (Or.inl ⟨by rfl, ?_⟩) ?_ ?_
              rotate_left
              · intro w'
                go_simp
                with_reducible rfl
              rotate_left
              · simp only [Act.put, List.setIfInBounds_toArray, List.set_cons_zero, List.set_cons_succ, i64_w, i32_w]
                rfl
              refine take_ (i := 5) (N := some 39) (v := ?_) (a' := ?_) #[true, true, true, true, true, true, true, false, false, false, false, false, false, false, false, false, false, false, false, false, false, false, false, false, false, false, false, false, false, false] rfl rfl (take_ofW HT_.out HW_.out (by kernel_rfl)) (fun _ _ _ h => h) (Or.inl ⟨by rfl, ?_⟩) hHeld ?_ ?_
              rotate_left
              · rintro w' ⟨s0, s1, s2, s3, s4, s5, s6⟩
                go_simp
                with_reducible rfl
              rotate_left
              · simp only [Act.put, List.setIfInBounds_toArray, List.set_cons_zero, List.set_cons_succ, i64_w, i32_w]
                rfl
              refine take_ (i := 7) (N := some 41) (v := ?_) (a' := ?_) #[true, true, true, true, true, true, true, true, false, false, false, false, false, false, false, false, false, false, false, false, false, false, false, false, false, false, false, false, false, false] rfl rfl (take_ofW HT_.out HW_.out (by kernel_rfl)) (fun _ _ _ h => h) (Or.inl ⟨by rfl, ?_⟩) hHeld ?_ ?_
              rotate_left
              · rintro w' ⟨s0, s1, s2, s3, s4, s5, s6⟩
                go_simp
                with_reducible rfl
              rotate_left
              · simp only [Act.put, List.setIfInBounds_toArray, List.set_cons_zero, List.set_cons_succ, i64_w, i32_w]
                rfl
              refine pure_ (i := 8) (N := some 42) (v := ?_) (a' := ?_) #[true, true, true, true, true, true, true, true, true, false, false, false, false, false, false, false, false, false, false, false, false, false, false, false, false, false, false, false, false, false] rfl rfl (any_of HT_.out (by kernel_rfl)) (fun _ _ _ h => h) (Or.inl ⟨by rfl, ?_⟩) ?_ ?_
              rotate_left
              · intro w'
                go_simp
                with_reducible rfl
              rotate_left
              · simp only [Act.put, List.setIfInBounds_toArray, List.set_cons_zero, List.set_cons_succ, i64_w, i32_w]
                rfl
              refine pure_ (i := 9) (N := some 43) (v := ?_) (a' := ?_) #[true, true, true, true, true, true, true, true, true, true, false, false, false, false, false, false, false, false, false, false, false, false, false, false, false, false, false, false, false, false] rfl rfl (any_of HT_.out (by kernel_rfl)) (fun _ _ _ h => h) (Or.inl ⟨by rfl, ?_⟩) ?_ ?_
              rotate_left
              · intro w'
                go_simp
                with_reducible rfl
              rotate_left
              · simp only [Act.put, List.setIfInBounds_toArray, List.set_cons_zero, List.set_cons_succ, i64_w, i32_w]
                rfl
              refine pure_ (i := 10) (N := some 44) (v := ?_) (a' := ?_) #[true, true, true, true, true, true, true, true, true, true, true, false, false, false, false, false, false, false, false, false, false, false, false, false, false, false, false, false, false, false] rfl rfl (any_of HT_.out (by kernel_rfl)) (fun _ _ _ h => h) (Or.inl ⟨by rfl, ?_⟩) ?_ ?_
              rotate_left
              · intro w'
                go_simp
                with_reducible rfl
              rotate_left
              · simp only [Act.put, List.setIfInBounds_toArray, List.set_cons_zero, List.set_cons_succ, i64_w, i32_w]
                rfl
              refine pure_ (i := 11) (N := some 45) (v := undef) (a' := ?_) #[true, true, true, true, true, true, true, true, true, true, true, true, false, false, false, false, false, false, false, false, false, false, false, false, false, false, false, false, false, false] rfl rfl (any_of HT_.out (by kernel_rfl)) (fun _ _ _ h => h) (Or.inr ⟨by rfl, rfl⟩) ?_ ?_
              rotate_left
              · simp only [Act.put, List.setIfInBounds_toArray, List.set_cons_zero, List.set_cons_succ, i64_w, i32_w]
                rfl
              refine pure_ (i := 12) (N := some 46) (v := undef) (a' := ?_) #[true, true, true, true, true, true, true, true, true, true, true, true, true, false, false, false, false, false, false, false, false, false, false, false, false, false, false, false, false, false] rfl rfl (any_of HT_.out (by kernel_rfl)) (fun _ _ _ h => h) (Or.inr ⟨by rfl, rfl⟩) ?_ ?_
              rotate_left
              · simp only [Act.put, List.setIfInBounds_toArray, List.set_cons_zero, List.set_cons_succ, i64_w, i32_w]
                rfl
              refine pure_ (i := 13) (N := some 47) (v := undef) (a' := ?_) #[true, true, true, true, true, true, true, true, true, true, true, true, true, true, false, false, false, false, false, false, false, false, false, false, false, false, false, false, false, false] rfl rfl (any_of HT_.out (by kernel_rfl)) (fun _ _ _ h => h) (Or.inr ⟨by rfl, rfl⟩) ?_ ?_
              rotate_left
              · simp only [Act.put, List.setIfInBounds_toArray, List.set_cons_zero, List.set_cons_succ, i64_w, i32_w]
                rfl
              refine pure_ (i := 14) (N := some 48) (v := ?_) (a' := ?_) #[true, true, true, true, true, true, true, true, true, true, true, true, true, true, true, false, false, false, false, false, false, false, false, false, false, false, false, false, false, false] rfl rfl (any_of HT_.out (by kernel_rfl)) (fun _ _ _ h => h) (Or.inl ⟨by rfl, ?_⟩) ?_ ?_
              rotate_left
              · intro w'
                go_simp
                with_reducible rfl
              rotate_left
              · simp only [Act.put, List.setIfInBounds_toArray, List.set_cons_zero, List.set_cons_succ, i64_w, i32_w]
                rfl
              refine pure_ (i := 15) (N := some 49) (v := ?_) (a' := ?_) #[true, true, true, true, true, true, true, true, true, true, true, true, true, true, true, true, false, false, false, false, false, false, false, false, false, false, false, false, false, false] rfl rfl (any_of HT_.out (by kernel_rfl)) (fun _ _ _ h => h) (Or.inl ⟨by rfl, ?_⟩) ?_ ?_
              rotate_left
              · intro w'
                go_simp
                with_reducible rfl
              rotate_left
              · simp only [Act.put, List.setIfInBounds_toArray, List.set_cons_zero, List.set_cons_succ, i64_w, i32_w]
                rfl
              refine pure_ (i := 16) (N := some 50) (v := undef) (a' := ?_) #[true, true, true, true, true, true, true, true, true, true, true, true, true, true, true, true, true, false, false, false, false, false, false, false, false, false, false, false, false, false] rfl rfl (any_of HT_.out (by kernel_rfl)) (fun _ _ _ h => h) (Or.inr ⟨by rfl, rfl⟩) ?_ ?_
              rotate_left
              · simp only [Act.put, List.setIfInBounds_toArray, List.set_cons_zero, List.set_cons_succ, i64_w, i32_w]
                rfl
              refine pure_ (i := 17) (N := some 51) (v := undef) (a' := ?_) #[true, true, true, true, true, true, true, true, true, true, true, true, true, true, true, true, true, true, false, false, false, false, false, false, false, false, false, false, false, false] rfl rfl (any_of HT_.out (by kernel_rfl)) (fun _ _ _ h => h) (Or.inr ⟨by rfl, rfl⟩) ?_ ?_
              rotate_left
              · simp only [Act.put, List.setIfInBounds_toArray, List.set_cons_zero, List.set_cons_succ, i64_w, i32_w]
                rfl
              refine pure_ (i := 18) (N := some 52) (v := undef) (a' := ?_) #[true, true, true, true, true, true, true, true, true, true, true, true, true, true, true, true, true, true, true, false, false, false, false, false, false, false, false, false, false, false] rfl rfl (any_of HT_.out (by kernel_rfl)) (fun _ _ _ h => h) (Or.inr ⟨by rfl, rfl⟩) ?_ ?_
              rotate_left
              · simp only [Act.put, List.setIfInBounds_toArray, List.set_cons_zero, List.set_cons_succ, i64_w, i32_w]
                rfl
              refine pure_ (i := 19) (N := some 53) (v := undef) (a' := ?_) #[true, true, true, true, true, true, true, true, true, true, true, true, true, true, true, true, true, true, true, true, false, false, false, false, false, false, false, false, false, false] rfl rfl (any_of HT_.out (by kernel_rfl)) (fun _ _ _ h => h) (Or.inr ⟨by rfl, rfl⟩) ?_ ?_
              rotate_left
              · simp only [Act.put, List.setIfInBounds_toArray, List.set_cons_zero, List.set_cons_succ, i64_w, i32_w]
                rfl
              refine pure_ (i := 20) (N := some 54) (v := undef) (a' := ?_) #[true, true, true, true, true, true, true, true, true, true, true, true, true, true, true, true, true, true, true, true, true, false, false, false, false, false, false, false, false, false] rfl rfl (any_of HT_.out (by kernel_rfl)) (fun _ _ _ h => h) (Or.inr ⟨by rfl, rfl⟩) ?_ ?_
              rotate_left
              · simp only [Act.put, List.setIfInBounds_toArray, List.set_cons_zero, List.set_cons_succ, i64_w, i32_w]
                rfl
              refine pure_ (i := 21) (N := some 55) (v := undef) (a' := ?_) #[true, true, true, true, true, true, true, true, true, true, true, true, true, true, true, true, true, true, true, true, true, true, false, false, false, false, false, false, false, false] rfl rfl (any_of HT_.out (by kernel_rfl)) (fun _ _ _ h => h) (Or.inr ⟨by rfl, rfl⟩) ?_ ?_
              rotate_left
              · simp only [Act.put, List.setIfInBounds_toArray, List.set_cons_zero, List.set_cons_succ, i64_w, i32_w]
                rfl
              refine pure_ (i := 22) (N := some 56) (v := undef) (a' := ?_) #[true, true, true, true, true, true, true, true, true, true, true, true, true, true, true, true, true, true, true, true, true, true, true, false, false, false, false, false, false, false] rfl rfl (any_of HT_.out (by kernel_rfl)) (fun _ _ _ h => h) (Or.inr ⟨by rfl, rfl⟩) ?_ ?_
              rotate_left
              · simp only [Act.put, List.setIfInBounds_toArray, List.set_cons_zero, List.set_cons_succ, i64_w, i32_w]
                rfl
              refine pure_ (i := 23) (N := some 57) (v := undef) (a' := ?_) #[true, true, true, true, true, true, true, true, true, true, true, true, true, true, true, true, true, true, true, true, true, true, true, true, false, false, false, false, false, false] rfl rfl (any_of HT_.out (by kernel_rfl)) (fun _ _ _ h => h) (Or.inr ⟨by rfl, rfl⟩) ?_ ?_
              rotate_left
              · simp only [Act.put, List.setIfInBounds_toArray, List.set_cons_zero, List.set_cons_succ, i64_w, i32_w]
                rfl
              refine pure_ (i := 24) (N := some 58) (v := undef) (a' := ?_) #[true, true, true, true, true, true, true, true, true, true, true, true, true, true, true, true, true, true, true, true, true, true, true, true, true, false, false, false, false, false] rfl rfl (any_of HT_.out (by kernel_rfl)) (fun _ _ _ h => h) (Or.inr ⟨by rfl, rfl⟩) ?_ ?_
              rotate_left
              · simp only [Act.put, List.setIfInBounds_toArray, List.set_cons_zero, List.set_cons_succ, i64_w, i32_w]
                rfl
              refine pure_ (i := 25) (N := some 59) (v := undef) (a' := ?_) #[true, true, true, true, true, true, true, true, true, true, true, true, true, true, true, true, true, true, true, true, true, true, true, true, true, true, false, false, false, false] rfl rfl (any_of HT_.out (by kernel_rfl)) (fun _ _ _ h => h) (Or.inr ⟨by rfl, rfl⟩) ?_ ?_
              rotate_left
              · simp only [Act.put, List.setIfInBounds_toArray, List.set_cons_zero, List.set_cons_succ, i64_w, i32_w]
                rfl
              refine pure_ (i := 26) (N := some 60) (v := undef) (a' := ?_) #[true, true, true, true, true, true, true, true, true, true, true, true, true, true, true, true, true, true, true, true, true, true, true, true, true, true, true, false, false, false] rfl rfl (any_of HT_.out (by kernel_rfl)) (fun _ _ _ h => h) (Or.inr ⟨by rfl, rfl⟩) ?_ ?_
              rotate_left
              · simp only [Act.put, List.setIfInBounds_toArray, List.set_cons_zero, List.set_cons_succ, i64_w, i32_w]
                rfl
              refine pure_ (i := 27) (N := some 61) (v := undef) (a' := ?_) #[true, true, true, true, true, true, true, true, true, true, true, true, true, true, true, true, true, true, true, true, true, true, true, true, true, true, true, true, false, false] rfl rfl (any_of HT_.out (by kernel_rfl)) (fun _ _ _ h => h) (Or.inr ⟨by rfl, rfl⟩) ?_ ?_
              rotate_left
              · simp only [Act.put, List.setIfInBounds_toArray, List.set_cons_zero, List.set_cons_succ, i64_w, i32_w]
                rfl
              refine pure_ (i := 28) (N := some 62) (v := undef) (a' := ?_) #[true, true, true, true, true, true, true, true, true, true, true, true, true, true, true, true, true, true, true, true, true, true, true, true, true, true, true, true, true, false] rfl rfl (any_of HT_.out (by kernel_rfl)) (fun _ _ _ h => h) (Or.inr ⟨by rfl, rfl⟩) ?_ ?_
              rotate_left
              · simp only [Act.put, List.setIfInBounds_toArray, List.set_cons_zero, List.set_cons_succ, i64_w, i32_w]
                rfl
              refine pure_ (i := 29) (N := some 63) (v := ?_) (a' := ?_) #[true, true, true, true, true, true, true, true, true, true, true, true, true, true, true, true, true, true, true, true, true, true, true, true, true, true, true, true, true, true] rfl rfl (any_of HT_.out (by kernel_rfl)) (fun _ _ _ h => h) (Or.inl ⟨by rfl, ?_⟩) ?_ ?_
              rotate_left
              · intro w'
                go_simp
                with_reducible rfl
              rotate_left
              · simp only [Act.put, List.setIfInBounds_toArray, List.set_cons_zero, List.set_cons_succ, i64_w, i32_w]
                rfl
              refine done_ (done_of HT_.out (by kernel_rfl)) ?_
              go_wp2
              go_ret
              exact ⟨ret_bool hbad.out.symm, (hbw.trans (hbW.mono (by omega))).drew⟩
            · have s2 : decide (nx ≤ x.seq) = false := decide_eq_false q2
              cases q3 : wel x with
              | false =>
                have hbad := Lib.hid (rightV_bad hlt (gd_no (nx := nx) HX.out (.inl q3)))
                rw [q3] at HV
                refine start_ (n := 30) (S := fun w' => w'.cell? ⟨gv, 0, none⟩ = some (.string x.key) ∧ w'.cell? ⟨gv, 1, none⟩ = some (.int .i64 x.seq) ∧ w'.cell? ⟨gv, 2, none⟩ = some (.bool x.gone) ∧ w'.cell? ⟨gv, 3, none⟩ = some (.string x.data) ∧ w'.cell? ⟨gv, 4, none⟩ = some (.slice A4 x.pairs.length c4) ∧ w'.cell? ⟨w.heap.size, 0, none⟩ = some (.int .i64 nx) ∧ w'.cell? ⟨w.heap.size, 1, none⟩ = some (.slice (some ad) l.length c)) (ds := []) #[false, false, false, false, false, false, false, false, false, false, false, false, false, false, false, false, false, false, false, false, false, false, false, false, false, false, false, false, false, false] (by kernel_rfl) rfl rfl ⟨v0, v1, v2, v3, v4, b0, b1⟩ (fun hHeld => ?_)
                refine with_tabW bR.tab7 bR.bits7 (fun HT_ HW_ => ?_)
                refine pure_ (i := 0) (N := some 34) (v := ?_) (a' := ?_) #[true, false, false, false, false, false, false, false, false, false, false, false, false, false, false, false, false, false, false, false, false, false, false, false, false, false, false, false, false, false] rfl rfl (any_of HT_.out (by kernel_rfl)) (fun _ _ _ h => h) (Or.inl ⟨by rfl, ?_⟩) ?_ ?_
                rotate_left
                · intro w'
                  go_simp
                  with_reducible rfl
                rotate_left
                · simp only [Act.put, List.setIfInBounds_toArray, List.set_cons_zero, List.set_cons_succ, i64_w, i32_w]
                  rfl
                refine take_ (i := 1) (N := some 35) (v := ?_) (a' := ?_) #[true, true, false, false, false, false, false, false, false, false, false, false, false, false, false, false, false, false, false, false, false, false, false, false, false, false, false, false, false, false] rfl rfl (take_ofW HT_.out HW_.out (by kernel_rfl)) (fun _ _ _ h => h) (Or.inl ⟨by rfl, ?_⟩) hHeld ?_ ?_
                rotate_left
                · rintro w' ⟨s0, s1, s2, s3, s4, s5, s6⟩
                  go_simp
                  with_reducible rfl
                rotate_left
                · simp only [Act.put, List.setIfInBounds_toArray, List.set_cons_zero, List.set_cons_succ, i64_w, i32_w]
                  rfl
                refine pure_ (i := 2) (N := some 36) (v := ?_) (a' := ?_) #[true, true, true, false, false, false, false, false, false, false, false, false, false, false, false, false, false, false, false, false, false, false, false, false, false, false, false, false, false, false] rfl rfl (any_of HT_.out (by kernel_rfl)) (fun _ _ _ h => h) (Or.inl ⟨by rfl, ?_⟩) ?_ ?_
                rotate_left
                · intro w'
                  go_simp
                  with_reducible rfl
                rotate_left
                · simp only [Act.put, List.setIfInBounds_toArray, List.set_cons_zero, List.set_cons_succ, i64_w, i32_w]
                  rfl
                refine pure_ (i := 3) (N := some 37) (v := ?_) (a' := ?_) #[true, true, true, true, false, false, false, false, false, false, false, false, false, false, false, false, false, false, false, false, false, false, false, false, false, false, false, false, false, false] rfl rfl (any_of HT_.out (by kernel_rfl)) (fun _ _ _ h => h) (Or.inl ⟨by rfl, ?_⟩) ?_ ?_
                rotate_left
                · intro w'
                  go_simp
                  with_reducible rfl
                rotate_left
                · simp only [Act.put, List.setIfInBounds_toArray, List.set_cons_zero, List.set_cons_succ, i64_w, i32_w]
                  rfl
                refine pure_ (i := 4) (N := some 38) (v := ?_) (a' := ?_) #[true, true, true, true, true, false, false, false, false, false, false, false, false, false, false, false, false, false, false, false, false, false, false, false, false, false, false, false, false, false] rfl rfl (any_of HT_.out (by kernel_rfl)) (fun _ _ _ h => h) (Or.inl ⟨by rfl, ?_⟩) ?_ ?_
                rotate_left
                · intro w'
                  go_simp
                  with_reducible rfl
                rotate_left
                · simp only [Act.put, List.setIfInBounds_toArray, List.set_cons_zero, List.set_cons_succ, i64_w, i32_w]
                  rfl
                refine pure_ (i := 6) (N := some 40) (v := ?_) (a' := ?_) #[true, true, true, true, true, false, true, false, false, false, false, false, false, false, false, false, false, false, false, false, false, false, false, false, false, false, false, false, false, false] rfl rfl (any_of HT_.out (by kernel_rfl)) (fun _ _ _ h => h) (Or.inl ⟨by rfl, ?_⟩) ?_ ?_
                rotate_left
                · intro w'
                  go_simp
                  with_reducible rfl
                rotate_left
                · simp only [Act.put, List.setIfInBounds_toArray, List.set_cons_zero, List.set_cons_succ, i64_w, i32_w]
                  rfl
                refine take_ (i := 5) (N := some 39) (v := ?_) (a' := ?_) #[true, true, true, true, true, true, true, false, false, false, false, false, false, false, false, false, false, false, false, false, false, false, false, false, false, false, false, false, false, false] rfl rfl (take_ofW HT_.out HW_.out (by kernel_rfl)) (fun _ _ _ h => h) (Or.inl ⟨by rfl, ?_⟩) hHeld ?_ ?_
                rotate_left
                · rintro w' ⟨s0, s1, s2, s3, s4, s5, s6⟩
                  go_simp
                  with_reducible rfl
                rotate_left
                · simp only [Act.put, List.setIfInBounds_toArray, List.set_cons_zero, List.set_cons_succ, i64_w, i32_w]
                  rfl
                refine take_ (i := 7) (N := some 41) (v := ?_) (a' := ?_) #[true, true, true, true, true, true, true, true, false, false, false, false, false, false, false, false, false, false, false, false, false, false, false, false, false, false, false, false, false, false] rfl rfl (take_ofW HT_.out HW_.out (by kernel_rfl)) (fun _ _ _ h => h) (Or.inl ⟨by rfl, ?_⟩) hHeld ?_ ?_
                rotate_left
                · rintro w' ⟨s0, s1, s2, s3, s4, s5, s6⟩
                  go_simp
                  with_reducible rfl
                rotate_left
                · simp only [Act.put, List.setIfInBounds_toArray, List.set_cons_zero, List.set_cons_succ, i64_w, i32_w]
                  rfl
                refine pure_ (i := 8) (N := some 42) (v := ?_) (a' := ?_) #[true, true, true, true, true, true, true, true, true, false, false, false, false, false, false, false, false, false, false, false, false, false, false, false, false, false, false, false, false, false] rfl rfl (any_of HT_.out (by kernel_rfl)) (fun _ _ _ h => h) (Or.inl ⟨by rfl, ?_⟩) ?_ ?_
                rotate_left
                · intro w'
                  go_simp
                  with_reducible rfl
                rotate_left
                · simp only [Act.put, List.setIfInBounds_toArray, List.set_cons_zero, List.set_cons_succ, i64_w, i32_w]
                  rfl
                refine pure_ (i := 9) (N := some 43) (v := ?_) (a' := ?_) #[true, true, true, true, true, true, true, true, true, true, false, false, false, false, false, false, false, false, false, false, false, false, false, false, false, false, false, false, false, false] rfl rfl (any_of HT_.out (by kernel_rfl)) (fun _ _ _ h => h) (Or.inl ⟨by rfl, ?_⟩) ?_ ?_
                rotate_left
                · intro w'
                  go_simp
                  with_reducible rfl
                rotate_left
                · simp only [Act.put, List.setIfInBounds_toArray, List.set_cons_zero, List.set_cons_succ, i64_w, i32_w]
                  rfl
                refine pure_ (i := 10) (N := some 44) (v := ?_) (a' := ?_) #[true, true, true, true, true, true, true, true, true, true, true, false, false, false, false, false, false, false, false, false, false, false, false, false, false, false, false, false, false, false] rfl rfl (any_of HT_.out (by kernel_rfl)) (fun _ _ _ h => h) (Or.inl ⟨by rfl, ?_⟩) ?_ ?_
                rotate_left
                · intro w'
                  go_simp
                  with_reducible rfl
                rotate_left
                · simp only [Act.put, List.setIfInBounds_toArray, List.set_cons_zero, List.set_cons_succ, i64_w, i32_w]
                  rfl
                refine take_ (i := 11) (N := some 45) (v := ?_) (a' := ?_) #[true, true, true, true, true, true, true, true, true, true, true, true, false, false, false, false, false, false, false, false, false, false, false, false, false, false, false, false, false, false] rfl rfl (take_ofW HT_.out HW_.out (by kernel_rfl)) (fun _ _ _ h => h) (Or.inl ⟨by rfl, ?_⟩) hHeld ?_ ?_
                rotate_left
                · rintro w' ⟨s0, s1, s2, s3, s4, s5, s6⟩
                  go_simp
                  with_reducible rfl
                rotate_left
                · simp only [Act.put, List.setIfInBounds_toArray, List.set_cons_zero, List.set_cons_succ, i64_w, i32_w]
                  rfl
                refine one_ (i := 12) (N := some 46) #[true, true, true, true, true, true, true, true, true, true, true, true, true, false, false, false, false, false, false, false, false, false, false, false, false, false, false, false, false, false] rfl rfl (one_of HT_.out (by kernel_rfl)) (by decide) (fun K hK => ?_)
                refine goes_ Try.func45 (by kernel_rfl) rfl #[x.val A4 c4] (by rfl) rfl rfl (by simp only [List.map_toArray, List.map_cons, List.map_nil]; rfl) ?_
                with_reducible refine ((HV _ (Below.refl _ _).drew).out).mono ?_
                rintro e w3 ⟨r, rfl, hr, hb⟩
                refine ⟨_, rfl, ?_⟩
                have hbx := hb
                have r1 := by_ver hr
                refine hK.out _ _ ⟨pw_cell_below hb (hHeld.1), pw_cell_below hb (hHeld.2.1), pw_cell_below hb (hHeld.2.2.1), pw_cell_below hb (hHeld.2.2.2.1), pw_cell_below hb (hHeld.2.2.2.2.1), pw_cell_below hb (hHeld.2.2.2.2.2.1), pw_cell_below hb (hHeld.2.2.2.2.2.2)⟩ (fun hHeld => ?_)
                clear hK K
                refine norm_ (a' := ?_) ?_ ?_
                rotate_left
                · show Act.put _ (some 46) _ = _
                  simp only [Act.put, List.setIfInBounds_toArray, List.set_cons_zero, List.set_cons_succ, i64_w, i32_w]
                  rfl
                refine pure_ (i := 13) (N := some 47) (v := ?_) (a' := ?_) #[true, true, true, true, true, true, true, true, true, true, true, true, true, true, false, false, false, false, false, false, false, false, false, false, false, false, false, false, false, false] rfl rfl (any_of HT_.out (by kernel_rfl)) (fun _ _ _ h => h) (Or.inl ⟨by rfl, ?_⟩) ?_ ?_
                rotate_left
                · intro w'
                  go_simp
                  with_reducible rfl
                rotate_left
                · simp only [Act.put, List.setIfInBounds_toArray, List.set_cons_zero, List.set_cons_succ, i64_w, i32_w]
                  rfl
                refine pure_ (i := 14) (N := some 48) (v := ?_) (a' := ?_) #[true, true, true, true, true, true, true, true, true, true, true, true, true, true, true, false, false, false, false, false, false, false, false, false, false, false, false, false, false, false] rfl rfl (any_of HT_.out (by kernel_rfl)) (fun _ _ _ h => h) (Or.inl ⟨by rfl, ?_⟩) ?_ ?_
                rotate_left
                · intro w'
                  go_simp
                  with_reducible rfl
                rotate_left
                · simp only [Act.put, List.setIfInBounds_toArray, List.set_cons_zero, List.set_cons_succ, i64_w, i32_w]
                  rfl
                refine pure_ (i := 15) (N := some 49) (v := ?_) (a' := ?_) #[true, true, true, true, true, true, true, true, true, true, true, true, true, true, true, true, false, false, false, false, false, false, false, false, false, false, false, false, false, false] rfl rfl (any_of HT_.out (by kernel_rfl)) (fun _ _ _ h => h) (Or.inl ⟨by rfl, ?_⟩) ?_ ?_
                rotate_left
                · intro w'
                  go_simp
                  with_reducible rfl
                rotate_left
                · simp only [Act.put, List.setIfInBounds_toArray, List.set_cons_zero, List.set_cons_succ, i64_w, i32_w]
                  rfl
                refine pure_ (i := 16) (N := some 50) (v := undef) (a' := ?_) #[true, true, true, true, true, true, true, true, true, true, true, true, true, true, true, true, true, false, false, false, false, false, false, false, false, false, false, false, false, false] rfl rfl (any_of HT_.out (by kernel_rfl)) (fun _ _ _ h => h) (Or.inr ⟨by rfl, rfl⟩) ?_ ?_
                rotate_left
                · simp only [Act.put, List.setIfInBounds_toArray, List.set_cons_zero, List.set_cons_succ, i64_w, i32_w]
                  rfl
                refine pure_ (i := 17) (N := some 51) (v := undef) (a' := ?_) #[true, true, true, true, true, true, true, true, true, true, true, true, true, true, true, true, true, true, false, false, false, false, false, false, false, false, false, false, false, false] rfl rfl (any_of HT_.out (by kernel_rfl)) (fun _ _ _ h => h) (Or.inr ⟨by rfl, rfl⟩) ?_ ?_
                rotate_left
                · simp only [Act.put, List.setIfInBounds_toArray, List.set_cons_zero, List.set_cons_succ, i64_w, i32_w]
                  rfl
                refine pure_ (i := 18) (N := some 52) (v := undef) (a' := ?_) #[true, true, true, true, true, true, true, true, true, true, true, true, true, true, true, true, true, true, true, false, false, false, false, false, false, false, false, false, false, false] rfl rfl (any_of HT_.out (by kernel_rfl)) (fun _ _ _ h => h) (Or.inr ⟨by rfl, rfl⟩) ?_ ?_
                rotate_left
                · simp only [Act.put, List.setIfInBounds_toArray, List.set_cons_zero, List.set_cons_succ, i64_w, i32_w]
                  rfl
                refine pure_ (i := 19) (N := some 53) (v := undef) (a' := ?_) #[true, true, true, true, true, true, true, true, true, true, true, true, true, true, true, true, true, true, true, true, false, false, false, false, false, false, false, false, false, false] rfl rfl (any_of HT_.out (by kernel_rfl)) (fun _ _ _ h => h) (Or.inr ⟨by rfl, rfl⟩) ?_ ?_
                rotate_left
                · simp only [Act.put, List.setIfInBounds_toArray, List.set_cons_zero, List.set_cons_succ, i64_w, i32_w]
                  rfl
                refine pure_ (i := 20) (N := some 54) (v := undef) (a' := ?_) #[true, true, true, true, true, true, true, true, true, true, true, true, true, true, true, true, true, true, true, true, true, false, false, false, false, false, false, false, false, false] rfl rfl (any_of HT_.out (by kernel_rfl)) (fun _ _ _ h => h) (Or.inr ⟨by rfl, rfl⟩) ?_ ?_
                rotate_left
                · simp only [Act.put, List.setIfInBounds_toArray, List.set_cons_zero, List.set_cons_succ, i64_w, i32_w]
                  rfl
                refine pure_ (i := 21) (N := some 55) (v := undef) (a' := ?_) #[true, true, true, true, true, true, true, true, true, true, true, true, true, true, true, true, true, true, true, true, true, true, false, false, false, false, false, false, false, false] rfl rfl (any_of HT_.out (by kernel_rfl)) (fun _ _ _ h => h) (Or.inr ⟨by rfl, rfl⟩) ?_ ?_
                rotate_left
                · simp only [Act.put, List.setIfInBounds_toArray, List.set_cons_zero, List.set_cons_succ, i64_w, i32_w]
                  rfl
                refine pure_ (i := 22) (N := some 56) (v := undef) (a' := ?_) #[true, true, true, true, true, true, true, true, true, true, true, true, true, true, true, true, true, true, true, true, true, true, true, false, false, false, false, false, false, false] rfl rfl (any_of HT_.out (by kernel_rfl)) (fun _ _ _ h => h) (Or.inr ⟨by rfl, rfl⟩) ?_ ?_
                rotate_left
                · simp only [Act.put, List.setIfInBounds_toArray, List.set_cons_zero, List.set_cons_succ, i64_w, i32_w]
                  rfl
                refine pure_ (i := 23) (N := some 57) (v := undef) (a' := ?_) #[true, true, true, true, true, true, true, true, true, true, true, true, true, true, true, true, true, true, true, true, true, true, true, true, false, false, false, false, false, false] rfl rfl (any_of HT_.out (by kernel_rfl)) (fun _ _ _ h => h) (Or.inr ⟨by rfl, rfl⟩) ?_ ?_
                rotate_left
                · simp only [Act.put, List.setIfInBounds_toArray, List.set_cons_zero, List.set_cons_succ, i64_w, i32_w]
                  rfl
                refine pure_ (i := 24) (N := some 58) (v := undef) (a' := ?_) #[true, true, true, true, true, true, true, true, true, true, true, true, true, true, true, true, true, true, true, true, true, true, true, true, true, false, false, false, false, false] rfl rfl (any_of HT_.out (by kernel_rfl)) (fun _ _ _ h => h) (Or.inr ⟨by rfl, rfl⟩) ?_ ?_
                rotate_left
                · simp only [Act.put, List.setIfInBounds_toArray, List.set_cons_zero, List.set_cons_succ, i64_w, i32_w]
                  rfl
                refine pure_ (i := 25) (N := some 59) (v := undef) (a' := ?_) #[true, true, true, true, true, true, true, true, true, true, true, true, true, true, true, true, true, true, true, true, true, true, true, true, true, true, false, false, false, false] rfl rfl (any_of HT_.out (by kernel_rfl)) (fun _ _ _ h => h) (Or.inr ⟨by rfl, rfl⟩) ?_ ?_
                rotate_left
                · simp only [Act.put, List.setIfInBounds_toArray, List.set_cons_zero, List.set_cons_succ, i64_w, i32_w]
                  rfl
                refine pure_ (i := 26) (N := some 60) (v := undef) (a' := ?_) #[true, true, true, true, true, true, true, true, true, true, true, true, true, true, true, true, true, true, true, true, true, true, true, true, true, true, true, false, false, false] rfl rfl (any_of HT_.out (by kernel_rfl)) (fun _ _ _ h => h) (Or.inr ⟨by rfl, rfl⟩) ?_ ?_
                rotate_left
                · simp only [Act.put, List.setIfInBounds_toArray, List.set_cons_zero, List.set_cons_succ, i64_w, i32_w]
                  rfl
                refine pure_ (i := 27) (N := some 61) (v := undef) (a' := ?_) #[true, true, true, true, true, true, true, true, true, true, true, true, true, true, true, true, true, true, true, true, true, true, true, true, true, true, true, true, false, false] rfl rfl (any_of HT_.out (by kernel_rfl)) (fun _ _ _ h => h) (Or.inr ⟨by rfl, rfl⟩) ?_ ?_
                rotate_left
                · simp only [Act.put, List.setIfInBounds_toArray, List.set_cons_zero, List.set_cons_succ, i64_w, i32_w]
                  rfl
                refine pure_ (i := 28) (N := some 62) (v := undef) (a' := ?_) #[true, true, true, true, true, true, true, true, true, true, true, true, true, true, true, true, true, true, true, true, true, true, true, true, true, true, true, true, true, false] rfl rfl (any_of HT_.out (by kernel_rfl)) (fun _ _ _ h => h) (Or.inr ⟨by rfl, rfl⟩) ?_ ?_
                rotate_left
                · simp only [Act.put, List.setIfInBounds_toArray, List.set_cons_zero, List.set_cons_succ, i64_w, i32_w]
                  rfl
                refine pure_ (i := 29) (N := some 63) (v := ?_) (a' := ?_) #[true, true, true, true, true, true, true, true, true, true, true, true, true, true, true, true, true, true, true, true, true, true, true, true, true, true, true, true, true, true] rfl rfl (any_of HT_.out (by kernel_rfl)) (fun _ _ _ h => h) (Or.inl ⟨by rfl, ?_⟩) ?_ ?_
                rotate_left
                · intro w'
                  go_simp
                  with_reducible rfl
                rotate_left
                · simp only [Act.put, List.setIfInBounds_toArray, List.set_cons_zero, List.set_cons_succ, i64_w, i32_w]
                  rfl
                refine done_ (done_of HT_.out (by kernel_rfl)) ?_
                go_wp2
                go_ret
                exact ⟨ret_bool hbad.out.symm, hbw.trans ((hbW.drew.trans (hbx.mono hbW.drew.size)).mono (by omega))⟩
              | true =>
                rw [q3] at HV
                by_cases q4 : k = 0
                · have s4 : decide (0 < k) = false := decide_eq_false (by omega)
                  have s5 : decide ((0 : Int) < (k : Int)) = false := decide_eq_false (by omega)
                  refine start_ (n := 30) (S := fun w' => w'.cell? ⟨gv, 0, none⟩ = some (.string x.key) ∧ w'.cell? ⟨gv, 1, none⟩ = some (.int .i64 x.seq) ∧ w'.cell? ⟨gv, 2, none⟩ = some (.bool x.gone) ∧ w'.cell? ⟨gv, 3, none⟩ = some (.string x.data) ∧ w'.cell? ⟨gv, 4, none⟩ = some (.slice A4 x.pairs.length c4) ∧ w'.cell? ⟨w.heap.size, 0, none⟩ = some (.int .i64 nx) ∧ w'.cell? ⟨w.heap.size, 1, none⟩ = some (.slice (some ad) l.length c)) (ds := []) #[false, false, false, false, false, false, false, false, false, false, false, false, false, false, false, false, false, false, false, false, false, false, false, false, false, false, false, false, false, false] (by kernel_rfl) rfl rfl ⟨v0, v1, v2, v3, v4, b0, b1⟩ (fun hHeld => ?_)
                  refine with_tabW bR.tab7 bR.bits7 (fun HT_ HW_ => ?_)
                  refine pure_ (i := 0) (N := some 34) (v := ?_) (a' := ?_) #[true, false, false, false, false, false, false, false, false, false, false, false, false, false, false, false, false, false, false, false, false, false, false, false, false, false, false, false, false, false] rfl rfl (any_of HT_.out (by kernel_rfl)) (fun _ _ _ h => h) (Or.inl ⟨by rfl, ?_⟩) ?_ ?_
                  rotate_left
                  · intro w'
                    go_simp
                    with_reducible rfl
                  rotate_left
                  · simp only [Act.put, List.setIfInBounds_toArray, List.set_cons_zero, List.set_cons_succ, i64_w, i32_w]
                    rfl
                  refine take_ (i := 1) (N := some 35) (v := ?_) (a' := ?_) #[true, true, false, false, false, false, false, false, false, false, false, false, false, false, false, false, false, false, false, false, false, false, false, false, false, false, false, false, false, false] rfl rfl (take_ofW HT_.out HW_.out (by kernel_rfl)) (fun _ _ _ h => h) (Or.inl ⟨by rfl, ?_⟩) hHeld ?_ ?_
                  rotate_left
                  · rintro w' ⟨s0, s1, s2, s3, s4, s5, s6⟩
                    go_simp
                    with_reducible rfl
                  rotate_left
                  · simp only [Act.put, List.setIfInBounds_toArray, List.set_cons_zero, List.set_cons_succ, i64_w, i32_w]
                    rfl
                  refine pure_ (i := 2) (N := some 36) (v := ?_) (a' := ?_) #[true, true, true, false, false, false, false, false, false, false, false, false, false, false, false, false, false, false, false, false, false, false, false, false, false, false, false, false, false, false] rfl rfl (any_of HT_.out (by kernel_rfl)) (fun _ _ _ h => h) (Or.inl ⟨by rfl, ?_⟩) ?_ ?_
                  rotate_left
                  · intro w'
                    go_simp
                    with_reducible rfl
                  rotate_left
                  · simp only [Act.put, List.setIfInBounds_toArray, List.set_cons_zero, List.set_cons_succ, i64_w, i32_w]
                    rfl
                  refine pure_ (i := 3) (N := some 37) (v := ?_) (a' := ?_) #[true, true, true, true, false, false, false, false, false, false, false, false, false, false, false, false, false, false, false, false, false, false, false, false, false, false, false, false, false, false] rfl rfl (any_of HT_.out (by kernel_rfl)) (fun _ _ _ h => h) (Or.inl ⟨by rfl, ?_⟩) ?_ ?_
                  rotate_left
                  · intro w'
                    go_simp
                    with_reducible rfl
                  rotate_left
                  · simp only [Act.put, List.setIfInBounds_toArray, List.set_cons_zero, List.set_cons_succ, i64_w, i32_w]
                    rfl
                  refine pure_ (i := 4) (N := some 38) (v := ?_) (a' := ?_) #[true, true, true, true, true, false, false, false, false, false, false, false, false, false, false, false, false, false, false, false, false, false, false, false, false, false, false, false, false, false] rfl rfl (any_of HT_.out (by kernel_rfl)) (fun _ _ _ h => h) (Or.inl ⟨by rfl, ?_⟩) ?_ ?_
                  rotate_left
                  · intro w'
                    go_simp
                    with_reducible rfl
                  rotate_left
                  · simp only [Act.put, List.setIfInBounds_toArray, List.set_cons_zero, List.set_cons_succ, i64_w, i32_w]
                    rfl
                  refine pure_ (i := 6) (N := some 40) (v := ?_) (a' := ?_) #[true, true, true, true, true, false, true, false, false, false, false, false, false, false, false, false, false, false, false, false, false, false, false, false, false, false, false, false, false, false] rfl rfl (any_of HT_.out (by kernel_rfl)) (fun _ _ _ h => h) (Or.inl ⟨by rfl, ?_⟩) ?_ ?_
                  rotate_left
                  · intro w'
                    go_simp
                    with_reducible rfl
                  rotate_left
                  · simp only [Act.put, List.setIfInBounds_toArray, List.set_cons_zero, List.set_cons_succ, i64_w, i32_w]
                    rfl
                  refine take_ (i := 5) (N := some 39) (v := ?_) (a' := ?_) #[true, true, true, true, true, true, true, false, false, false, false, false, false, false, false, false, false, false, false, false, false, false, false, false, false, false, false, false, false, false] rfl rfl (take_ofW HT_.out HW_.out (by kernel_rfl)) (fun _ _ _ h => h) (Or.inl ⟨by rfl, ?_⟩) hHeld ?_ ?_
                  rotate_left
                  · rintro w' ⟨s0, s1, s2, s3, s4, s5, s6⟩
                    go_simp
                    with_reducible rfl
                  rotate_left
                  · simp only [Act.put, List.setIfInBounds_toArray, List.set_cons_zero, List.set_cons_succ, i64_w, i32_w]
                    rfl
                  refine take_ (i := 7) (N := some 41) (v := ?_) (a' := ?_) #[true, true, true, true, true, true, true, true, false, false, false, false, false, false, false, false, false, false, false, false, false, false, false, false, false, false, false, false, false, false] rfl rfl (take_ofW HT_.out HW_.out (by kernel_rfl)) (fun _ _ _ h => h) (Or.inl ⟨by rfl, ?_⟩) hHeld ?_ ?_
                  rotate_left
                  · rintro w' ⟨s0, s1, s2, s3, s4, s5, s6⟩
                    go_simp
                    with_reducible rfl
                  rotate_left
                  · simp only [Act.put, List.setIfInBounds_toArray, List.set_cons_zero, List.set_cons_succ, i64_w, i32_w]
                    rfl
                  refine pure_ (i := 8) (N := some 42) (v := ?_) (a' := ?_) #[true, true, true, true, true, true, true, true, true, false, false, false, false, false, false, false, false, false, false, false, false, false, false, false, false, false, false, false, false, false] rfl rfl (any_of HT_.out (by kernel_rfl)) (fun _ _ _ h => h) (Or.inl ⟨by rfl, ?_⟩) ?_ ?_
                  rotate_left
                  · intro w'
                    go_simp
                    with_reducible rfl
                  rotate_left
                  · simp only [Act.put, List.setIfInBounds_toArray, List.set_cons_zero, List.set_cons_succ, i64_w, i32_w]
                    rfl
                  refine pure_ (i := 9) (N := some 43) (v := ?_) (a' := ?_) #[true, true, true, true, true, true, true, true, true, true, false, false, false, false, false, false, false, false, false, false, false, false, false, false, false, false, false, false, false, false] rfl rfl (any_of HT_.out (by kernel_rfl)) (fun _ _ _ h => h) (Or.inl ⟨by rfl, ?_⟩) ?_ ?_
                  rotate_left
                  · intro w'
                    go_simp
                    with_reducible rfl
                  rotate_left
                  · simp only [Act.put, List.setIfInBounds_toArray, List.set_cons_zero, List.set_cons_succ, i64_w, i32_w]
                    rfl
                  refine pure_ (i := 10) (N := some 44) (v := ?_) (a' := ?_) #[true, true, true, true, true, true, true, true, true, true, true, false, false, false, false, false, false, false, false, false, false, false, false, false, false, false, false, false, false, false] rfl rfl (any_of HT_.out (by kernel_rfl)) (fun _ _ _ h => h) (Or.inl ⟨by rfl, ?_⟩) ?_ ?_
                  rotate_left
                  · intro w'
                    go_simp
                    with_reducible rfl
                  rotate_left
                  · simp only [Act.put, List.setIfInBounds_toArray, List.set_cons_zero, List.set_cons_succ, i64_w, i32_w]
                    rfl
                  refine take_ (i := 11) (N := some 45) (v := ?_) (a' := ?_) #[true, true, true, true, true, true, true, true, true, true, true, true, false, false, false, false, false, false, false, false, false, false, false, false, false, false, false, false, false, false] rfl rfl (take_ofW HT_.out HW_.out (by kernel_rfl)) (fun _ _ _ h => h) (Or.inl ⟨by rfl, ?_⟩) hHeld ?_ ?_
                  rotate_left
                  · rintro w' ⟨s0, s1, s2, s3, s4, s5, s6⟩
                    go_simp
                    with_reducible rfl
                  rotate_left
                  · simp only [Act.put, List.setIfInBounds_toArray, List.set_cons_zero, List.set_cons_succ, i64_w, i32_w]
                    rfl
                  refine one_ (i := 12) (N := some 46) #[true, true, true, true, true, true, true, true, true, true, true, true, true, false, false, false, false, false, false, false, false, false, false, false, false, false, false, false, false, false] rfl rfl (one_of HT_.out (by kernel_rfl)) (by decide) (fun K hK => ?_)
                  refine goes_ Try.func45 (by kernel_rfl) rfl #[x.val A4 c4] (by rfl) rfl rfl (by simp only [List.map_toArray, List.map_cons, List.map_nil]; rfl) ?_
                  with_reducible refine ((HV _ (Below.refl _ _).drew).out).mono ?_
                  rintro e w3 ⟨r, rfl, hr, hb⟩
                  refine ⟨_, rfl, ?_⟩
                  have hbx := hb
                  have r1 := by_ver hr
                  refine hK.out _ _ ⟨pw_cell_below hb (hHeld.1), pw_cell_below hb (hHeld.2.1), pw_cell_below hb (hHeld.2.2.1), pw_cell_below hb (hHeld.2.2.2.1), pw_cell_below hb (hHeld.2.2.2.2.1), pw_cell_below hb (hHeld.2.2.2.2.2.1), pw_cell_below hb (hHeld.2.2.2.2.2.2)⟩ (fun hHeld => ?_)
                  clear hK K
                  refine norm_ (a' := ?_) ?_ ?_
                  rotate_left
                  · show Act.put _ (some 46) _ = _
                    simp only [Act.put, List.setIfInBounds_toArray, List.set_cons_zero, List.set_cons_succ, i64_w, i32_w]
                    rfl
                  refine pure_ (i := 13) (N := some 47) (v := ?_) (a' := ?_) #[true, true, true, true, true, true, true, true, true, true, true, true, true, true, false, false, false, false, false, false, false, false, false, false, false, false, false, false, false, false] rfl rfl (any_of HT_.out (by kernel_rfl)) (fun _ _ _ h => h) (Or.inl ⟨by rfl, ?_⟩) ?_ ?_
                  rotate_left
                  · intro w'
                    go_simp
                    with_reducible rfl
                  rotate_left
                  · simp only [Act.put, List.setIfInBounds_toArray, List.set_cons_zero, List.set_cons_succ, i64_w, i32_w]
                    rfl
                  refine pure_ (i := 14) (N := some 48) (v := ?_) (a' := ?_) #[true, true, true, true, true, true, true, true, true, true, true, true, true, true, true, false, false, false, false, false, false, false, false, false, false, false, false, false, false, false] rfl rfl (any_of HT_.out (by kernel_rfl)) (fun _ _ _ h => h) (Or.inl ⟨by rfl, ?_⟩) ?_ ?_
                  rotate_left
                  · intro w'
                    go_simp
                    with_reducible rfl
                  rotate_left
                  · simp only [Act.put, List.setIfInBounds_toArray, List.set_cons_zero, List.set_cons_succ, i64_w, i32_w]
                    rfl
                  refine pure_ (i := 15) (N := some 49) (v := ?_) (a' := ?_) #[true, true, true, true, true, true, true, true, true, true, true, true, true, true, true, true, false, false, false, false, false, false, false, false, false, false, false, false, false, false] rfl rfl (any_of HT_.out (by kernel_rfl)) (fun _ _ _ h => h) (Or.inl ⟨by rfl, ?_⟩) ?_ ?_
                  rotate_left
                  · intro w'
                    go_simp
                    with_reducible rfl
                  rotate_left
                  · simp only [Act.put, List.setIfInBounds_toArray, List.set_cons_zero, List.set_cons_succ, i64_w, i32_w]
                    rfl
                  refine pure_ (i := 16) (N := some 50) (v := ?_) (a' := ?_) #[true, true, true, true, true, true, true, true, true, true, true, true, true, true, true, true, true, false, false, false, false, false, false, false, false, false, false, false, false, false] rfl rfl (any_of HT_.out (by kernel_rfl)) (fun _ _ _ h => h) (Or.inl ⟨by rfl, ?_⟩) ?_ ?_
                  rotate_left
                  · intro w'
                    go_simp
                    with_reducible rfl
                  rotate_left
                  · simp only [Act.put, List.setIfInBounds_toArray, List.set_cons_zero, List.set_cons_succ, i64_w, i32_w]
                    rfl
                  refine pure_ (i := 17) (N := some 51) (v := ?_) (a' := ?_) #[true, true, true, true, true, true, true, true, true, true, true, true, true, true, true, true, true, true, false, false, false, false, false, false, false, false, false, false, false, false] rfl rfl (any_of HT_.out (by kernel_rfl)) (fun _ _ _ h => h) (Or.inl ⟨by rfl, ?_⟩) ?_ ?_
                  rotate_left
                  · intro w'
                    go_simp
                    with_reducible rfl
                  rotate_left
                  · simp only [Act.put, List.setIfInBounds_toArray, List.set_cons_zero, List.set_cons_succ, i64_w, i32_w]
                    rfl
                  refine pure_ (i := 18) (N := some 52) (v := ?_) (a' := ?_) #[true, true, true, true, true, true, true, true, true, true, true, true, true, true, true, true, true, true, true, false, false, false, false, false, false, false, false, false, false, false] rfl rfl (any_of HT_.out (by kernel_rfl)) (fun _ _ _ h => h) (Or.inl ⟨by rfl, ?_⟩) ?_ ?_
                  rotate_left
                  · intro w'
                    go_simp
                    with_reducible rfl
                  rotate_left
                  · simp only [Act.put, List.setIfInBounds_toArray, List.set_cons_zero, List.set_cons_succ, i64_w, i32_w]
                    rfl
                  refine pure_ (i := 19) (N := some 53) (v := undef) (a' := ?_) #[true, true, true, true, true, true, true, true, true, true, true, true, true, true, true, true, true, true, true, true, false, false, false, false, false, false, false, false, false, false] rfl rfl (any_of HT_.out (by kernel_rfl)) (fun _ _ _ h => h) (Or.inr ⟨by rfl, rfl⟩) ?_ ?_
                  rotate_left
                  · simp only [Act.put, List.setIfInBounds_toArray, List.set_cons_zero, List.set_cons_succ, i64_w, i32_w]
                    rfl
                  refine pure_ (i := 20) (N := some 54) (v := undef) (a' := ?_) #[true, true, true, true, true, true, true, true, true, true, true, true, true, true, true, true, true, true, true, true, true, false, false, false, false, false, false, false, false, false] rfl rfl (any_of HT_.out (by kernel_rfl)) (fun _ _ _ h => h) (Or.inr ⟨by rfl, rfl⟩) ?_ ?_
                  rotate_left
                  · simp only [Act.put, List.setIfInBounds_toArray, List.set_cons_zero, List.set_cons_succ, i64_w, i32_w]
                    rfl
                  refine pure_ (i := 21) (N := some 55) (v := undef) (a' := ?_) #[true, true, true, true, true, true, true, true, true, true, true, true, true, true, true, true, true, true, true, true, true, true, false, false, false, false, false, false, false, false] rfl rfl (any_of HT_.out (by kernel_rfl)) (fun _ _ _ h => h) (Or.inr ⟨by rfl, rfl⟩) ?_ ?_
                  rotate_left
                  · simp only [Act.put, List.setIfInBounds_toArray, List.set_cons_zero, List.set_cons_succ, i64_w, i32_w]
                    rfl
                  refine pure_ (i := 22) (N := some 56) (v := undef) (a' := ?_) #[true, true, true, true, true, true, true, true, true, true, true, true, true, true, true, true, true, true, true, true, true, true, true, false, false, false, false, false, false, false] rfl rfl (any_of HT_.out (by kernel_rfl)) (fun _ _ _ h => h) (Or.inr ⟨by rfl, rfl⟩) ?_ ?_
                  rotate_left
                  · simp only [Act.put, List.setIfInBounds_toArray, List.set_cons_zero, List.set_cons_succ, i64_w, i32_w]
                    rfl
                  refine pure_ (i := 23) (N := some 57) (v := undef) (a' := ?_) #[true, true, true, true, true, true, true, true, true, true, true, true, true, true, true, true, true, true, true, true, true, true, true, true, false, false, false, false, false, false] rfl rfl (any_of HT_.out (by kernel_rfl)) (fun _ _ _ h => h) (Or.inr ⟨by rfl, rfl⟩) ?_ ?_
                  rotate_left
                  · simp only [Act.put, List.setIfInBounds_toArray, List.set_cons_zero, List.set_cons_succ, i64_w, i32_w]
                    rfl
                  refine pure_ (i := 24) (N := some 58) (v := undef) (a' := ?_) #[true, true, true, true, true, true, true, true, true, true, true, true, true, true, true, true, true, true, true, true, true, true, true, true, true, false, false, false, false, false] rfl rfl (any_of HT_.out (by kernel_rfl)) (fun _ _ _ h => h) (Or.inr ⟨by rfl, rfl⟩) ?_ ?_
                  rotate_left
                  · simp only [Act.put, List.setIfInBounds_toArray, List.set_cons_zero, List.set_cons_succ, i64_w, i32_w]
                    rfl
                  refine pure_ (i := 25) (N := some 59) (v := undef) (a' := ?_) #[true, true, true, true, true, true, true, true, true, true, true, true, true, true, true, true, true, true, true, true, true, true, true, true, true, true, false, false, false, false] rfl rfl (any_of HT_.out (by kernel_rfl)) (fun _ _ _ h => h) (Or.inr ⟨by rfl, rfl⟩) ?_ ?_
                  rotate_left
                  · simp only [Act.put, List.setIfInBounds_toArray, List.set_cons_zero, List.set_cons_succ, i64_w, i32_w]
                    rfl
                  refine pure_ (i := 26) (N := some 60) (v := undef) (a' := ?_) #[true, true, true, true, true, true, true, true, true, true, true, true, true, true, true, true, true, true, true, true, true, true, true, true, true, true, true, false, false, false] rfl rfl (any_of HT_.out (by kernel_rfl)) (fun _ _ _ h => h) (Or.inr ⟨by rfl, rfl⟩) ?_ ?_
                  rotate_left
                  · simp only [Act.put, List.setIfInBounds_toArray, List.set_cons_zero, List.set_cons_succ, i64_w, i32_w]
                    rfl
                  refine pure_ (i := 27) (N := some 61) (v := undef) (a' := ?_) #[true, true, true, true, true, true, true, true, true, true, true, true, true, true, true, true, true, true, true, true, true, true, true, true, true, true, true, true, false, false] rfl rfl (any_of HT_.out (by kernel_rfl)) (fun _ _ _ h => h) (Or.inr ⟨by rfl, rfl⟩) ?_ ?_
                  rotate_left
                  · simp only [Act.put, List.setIfInBounds_toArray, List.set_cons_zero, List.set_cons_succ, i64_w, i32_w]
                    rfl
                  refine pure_ (i := 28) (N := some 62) (v := ?_) (a' := ?_) #[true, true, true, true, true, true, true, true, true, true, true, true, true, true, true, true, true, true, true, true, true, true, true, true, true, true, true, true, true, false] rfl rfl (any_of HT_.out (by kernel_rfl)) (fun _ _ _ h => h) (Or.inl ⟨by rfl, ?_⟩) ?_ ?_
                  rotate_left
                  · intro w'
                    go_simp
                    with_reducible rfl
                  rotate_left
                  · simp only [Act.put, List.setIfInBounds_toArray, List.set_cons_zero, List.set_cons_succ, i64_w, i32_w]
                    rfl
                  refine pure_ (i := 29) (N := some 63) (v := ?_) (a' := ?_) #[true, true, true, true, true, true, true, true, true, true, true, true, true, true, true, true, true, true, true, true, true, true, true, true, true, true, true, true, true, true] rfl rfl (any_of HT_.out (by kernel_rfl)) (fun _ _ _ h => h) (Or.inl ⟨by rfl, ?_⟩) ?_ ?_
                  rotate_left
                  · intro w'
                    go_simp
                    with_reducible rfl
                  rotate_left
                  · simp only [Act.put, List.setIfInBounds_toArray, List.set_cons_zero, List.set_cons_succ, i64_w, i32_w]
                    rfl
                  refine done_ (done_of HT_.out (by kernel_rfl)) ?_
                  have z1 := hHeld.2.1
                  have own3 := own_below (w := W.drew) own1 hbx hszW
                  have bel3 : Below wm.heap.size wm w3 := hbW.drew.trans (hbx.mono (Nat.le_of_succ_le hszW))
                  have hgs := World.block_lt_of_cell? w3 _ z1
                  have hs3 : wm.heap.size + 1 ≤ w3.heap.size := Nat.le_trans hgv (Nat.le_of_lt hgs)
                  have hkey : keyOf Try.prog 2 (.int .i64 x.seq) = some (.int .i64 x.seq) := keyOf_int_mk Try.underlying2 (wf_seq q1 q2 n2)
                  have hkm : k < maxLen := by unfold maxLen; omega
                  cases q6 : apartTo l (k) (k) with
                  | false =>
                    have hbad := Lib.hid (rightV_bad hlt (gd_no (nx := nx) HX.out (.inr (.inr (.inr (.inr q6))))))
                    have hc0 : ∀ c, D.atKey (.int .i64 x.seq) (.lit (.int .i64 0)) = .lit (.int .i64 c) → c = 1 := fun c hat => by rw [seen_at HS.out hk (by rw [HX.out]) hat, q6]; rfl
                    clear HV HP1
                    go_wp2_with (first
                      | (at_lookup; refine wpList_lookup_own_int _ rfl _ _ 66 rfl 2 3 .i64 lawI Try.underlying66 Try.underlying3 (zeroI _) wm.heap.size (k) _ rfl own3 _ _ rfl hkey ?_; intro c1 hat1 hwc1; obtain rfl := hc0 c1 hat1)
                      | (at_lookup; refine wpList_lookup_own_int _ rfl _ _ 66 rfl 2 3 .i64 lawI Try.underlying66 Try.underlying3 (zeroI _) wm.heap.size (k + 1) _ rfl hown1 _ _ rfl hkey ?_; intro c2 hat2 hwc2; obtain rfl : c2 = 2 := seen_two HS.out.1 hat2)
                      | (at_mapUpdate; refine wpList_mapUpdate_own _ rfl _ _ _ 66 rfl 2 3 lawI Try.underlying66 _ wm.heap.size (k) _ rfl own3 hkm _ _ _ rfl rfl hkey (.lit (.int .i64 2)) [] (plainElem_int Try.underlying3 (by decide)) ?_; intro w1 hown1 hgrow1; have z2 := (World.cell?_of_block (w := w3) (hgrow1.block gv hgs (fun e => by cases e; exact Nat.lt_irrefl _ hgv))).trans z1)
                      | go_in)
                    go_ret
                    exact ⟨ret_bool hbad.out.symm, hbw.trans ((bel3.grown hgrow1 (Nat.le_of_succ_le hs3) (fun k h => by cases h; exact Nat.le_refl _)).mono (Nat.le_trans (Nat.le_succ _) hww))⟩
                  | true =>
                    have hgood := Lib.hid (gd_yes (nx := nx) HX.out q3 q1 q2 (.inl q4) q6)
                    have hc0 : ∀ c, D.atKey (.int .i64 x.seq) (.lit (.int .i64 0)) = .lit (.int .i64 c) → c = 0 := fun c hat => by rw [seen_at HS.out hk (by rw [HX.out]) hat, q6]; rfl
                    clear HV HP1
                    go_wp2_with (first
                      | (at_lookup; refine wpList_lookup_own_int _ rfl _ _ 66 rfl 2 3 .i64 lawI Try.underlying66 Try.underlying3 (zeroI _) wm.heap.size (k) _ rfl own3 _ _ rfl hkey ?_; intro c1 hat1 hwc1; obtain rfl := hc0 c1 hat1)
                      | (at_lookup; refine wpList_lookup_own_int _ rfl _ _ 66 rfl 2 3 .i64 lawI Try.underlying66 Try.underlying3 (zeroI _) wm.heap.size (k + 1) _ rfl hown1 _ _ rfl hkey ?_; intro c2 hat2 hwc2; obtain rfl : c2 = 1 := seen_two HS.out.1 hat2)
                      | (at_mapUpdate; refine wpList_mapUpdate_own _ rfl _ _ _ 66 rfl 2 3 lawI Try.underlying66 _ wm.heap.size (k) _ rfl own3 hkm _ _ _ rfl rfl hkey (.lit (.int .i64 1)) [] (plainElem_int Try.underlying3 (by decide)) ?_; intro w1 hown1 hgrow1; have z2 := (World.cell?_of_block (w := w3) (hgrow1.block gv hgs (fun e => by cases e; exact Nat.lt_irrefl _ hgv))).trans z1)
                      | go_in)
                    go_roundw
                    case rel => exact ⟨k + 1, _, hlt, by go_num, HG.out.succ hgood.out, seen_succ HS.out hlt (by rw [HX.out]), hown1, bel3.grown hgrow1 (Nat.le_of_succ_le hs3) (fun k h => by cases h; exact Nat.le_refl _), Nat.le_trans hs3 hgrow1.size⟩
                    case measure => simp [intOf]; omega
                · have s4 : decide (0 < k) = true := decide_eq_true (by omega)
                  have s5 : decide ((0 : Int) < (k : Int)) = true := decide_eq_true (by omega)
                  obtain ⟨B4, d4, y0, y1, y2, y3, y4⟩ := (HP1 q4).out
                  have hyy : ∃ y, rdV l (k - 1) = y := ⟨_, rfl⟩
                  obtain ⟨y, hy⟩ := hyy
                  rw [hy] at y0 y1 y2 y3 y4
                  have HY := Lib.hid hy
                  clear hy
                  have hwj : ∀ j, k = j + 1 → wrap64 (j : Int) = (j : Int) := fun j hj => w64_nat (by omega)
                  obtain ⟨j, rfl⟩ : ∃ j, k = j + 1 := ⟨k - 1, by omega⟩
                  replace hwj := hwj j rfl
                  have hjl : j < l.length := Nat.lt_of_succ_lt hlt
                  have hjl2 : (j : Int) < (l.length : Int) := Int.ofNat_lt.2 hjl
                  rw [Nat.add_sub_cancel] at y0 y1 y2 y3 y4
                  have HA := fun w' => Lib.hid (ahead_any y x B4 A4 d4 c4 w')
                  cases q5 : va y x with
                  | false =>
                    have hbad := Lib.hid (rightV_bad hlt (gd_no (nx := nx) HX.out (.inr (.inr (.inr (.inl ⟨q4, by rw [HY.out]; exact q5⟩))))))
                    rw [q5] at HA
                    refine start_ (n := 30) (S := fun w' => w'.cell? ⟨gv, 0, none⟩ = some (.string x.key) ∧ w'.cell? ⟨gv, 1, none⟩ = some (.int .i64 x.seq) ∧ w'.cell? ⟨gv, 2, none⟩ = some (.bool x.gone) ∧ w'.cell? ⟨gv, 3, none⟩ = some (.string x.data) ∧ w'.cell? ⟨gv, 4, none⟩ = some (.slice A4 x.pairs.length c4) ∧ w'.cell? ⟨w.heap.size, 0, none⟩ = some (.int .i64 nx) ∧ w'.cell? ⟨w.heap.size, 1, none⟩ = some (.slice (some ad) l.length c) ∧ w'.cell? (ad.add (j * 5)) = some (.string y.key) ∧ w'.cell? ⟨(ad.add (j * 5)).block, (ad.add (j * 5)).off + 1, none⟩ = some (.int .i64 y.seq) ∧ w'.cell? ⟨(ad.add (j * 5)).block, (ad.add (j * 5)).off + 2, none⟩ = some (.bool y.gone) ∧ w'.cell? ⟨(ad.add (j * 5)).block, (ad.add (j * 5)).off + 3, none⟩ = some (.string y.data) ∧ w'.cell? ⟨(ad.add (j * 5)).block, (ad.add (j * 5)).off + 4, none⟩ = some (.slice B4 y.pairs.length d4)) (ds := []) #[false, false, false, false, false, false, false, false, false, false, false, false, false, false, false, false, false, false, false, false, false, false, false, false, false, false, false, false, false, false] (by kernel_rfl) rfl rfl ⟨v0, v1, v2, v3, v4, b0, b1, y0, y1, y2, y3, y4⟩ (fun hHeld => ?_)
                    refine with_tabW bR.tab7 bR.bits7 (fun HT_ HW_ => ?_)
                    refine pure_ (i := 0) (N := some 34) (v := ?_) (a' := ?_) #[true, false, false, false, false, false, false, false, false, false, false, false, false, false, false, false, false, false, false, false, false, false, false, false, false, false, false, false, false, false] rfl rfl (any_of HT_.out (by kernel_rfl)) (fun _ _ _ h => h) (Or.inl ⟨by rfl, ?_⟩) ?_ ?_
                    rotate_left
                    · intro w'
                      go_simp
                      with_reducible rfl
                    rotate_left
                    · simp only [Act.put, List.setIfInBounds_toArray, List.set_cons_zero, List.set_cons_succ, i64_w, i32_w]
                      rfl
                    refine take_ (i := 1) (N := some 35) (v := ?_) (a' := ?_) #[true, true, false, false, false, false, false, false, false, false, false, false, false, false, false, false, false, false, false, false, false, false, false, false, false, false, false, false, false, false] rfl rfl (take_ofW HT_.out HW_.out (by kernel_rfl)) (fun _ _ _ h => h) (Or.inl ⟨by rfl, ?_⟩) hHeld ?_ ?_
                    rotate_left
                    · rintro w' ⟨s0, s1, s2, s3, s4, s5, s6, s7, s8, s9, s10, s11⟩
                      go_simp
                      with_reducible rfl
                    rotate_left
                    · simp only [Act.put, List.setIfInBounds_toArray, List.set_cons_zero, List.set_cons_succ, i64_w, i32_w]
                      rfl
                    refine pure_ (i := 2) (N := some 36) (v := ?_) (a' := ?_) #[true, true, true, false, false, false, false, false, false, false, false, false, false, false, false, false, false, false, false, false, false, false, false, false, false, false, false, false, false, false] rfl rfl (any_of HT_.out (by kernel_rfl)) (fun _ _ _ h => h) (Or.inl ⟨by rfl, ?_⟩) ?_ ?_
                    rotate_left
                    · intro w'
                      go_simp
                      with_reducible rfl
                    rotate_left
                    · simp only [Act.put, List.setIfInBounds_toArray, List.set_cons_zero, List.set_cons_succ, i64_w, i32_w]
                      rfl
                    refine pure_ (i := 3) (N := some 37) (v := ?_) (a' := ?_) #[true, true, true, true, false, false, false, false, false, false, false, false, false, false, false, false, false, false, false, false, false, false, false, false, false, false, false, false, false, false] rfl rfl (any_of HT_.out (by kernel_rfl)) (fun _ _ _ h => h) (Or.inl ⟨by rfl, ?_⟩) ?_ ?_
                    rotate_left
                    · intro w'
                      go_simp
                      with_reducible rfl
                    rotate_left
                    · simp only [Act.put, List.setIfInBounds_toArray, List.set_cons_zero, List.set_cons_succ, i64_w, i32_w]
                      rfl
                    refine pure_ (i := 4) (N := some 38) (v := ?_) (a' := ?_) #[true, true, true, true, true, false, false, false, false, false, false, false, false, false, false, false, false, false, false, false, false, false, false, false, false, false, false, false, false, false] rfl rfl (any_of HT_.out (by kernel_rfl)) (fun _ _ _ h => h) (Or.inl ⟨by rfl, ?_⟩) ?_ ?_
                    rotate_left
                    · intro w'
                      go_simp
                      with_reducible rfl
                    rotate_left
                    · simp only [Act.put, List.setIfInBounds_toArray, List.set_cons_zero, List.set_cons_succ, i64_w, i32_w]
                      rfl
                    refine pure_ (i := 6) (N := some 40) (v := ?_) (a' := ?_) #[true, true, true, true, true, false, true, false, false, false, false, false, false, false, false, false, false, false, false, false, false, false, false, false, false, false, false, false, false, false] rfl rfl (any_of HT_.out (by kernel_rfl)) (fun _ _ _ h => h) (Or.inl ⟨by rfl, ?_⟩) ?_ ?_
                    rotate_left
                    · intro w'
                      go_simp
                      with_reducible rfl
                    rotate_left
                    · simp only [Act.put, List.setIfInBounds_toArray, List.set_cons_zero, List.set_cons_succ, i64_w, i32_w]
                      rfl
                    refine take_ (i := 5) (N := some 39) (v := ?_) (a' := ?_) #[true, true, true, true, true, true, true, false, false, false, false, false, false, false, false, false, false, false, false, false, false, false, false, false, false, false, false, false, false, false] rfl rfl (take_ofW HT_.out HW_.out (by kernel_rfl)) (fun _ _ _ h => h) (Or.inl ⟨by rfl, ?_⟩) hHeld ?_ ?_
                    rotate_left
                    · rintro w' ⟨s0, s1, s2, s3, s4, s5, s6, s7, s8, s9, s10, s11⟩
                      go_simp
                      with_reducible rfl
                    rotate_left
                    · simp only [Act.put, List.setIfInBounds_toArray, List.set_cons_zero, List.set_cons_succ, i64_w, i32_w]
                      rfl
                    refine take_ (i := 7) (N := some 41) (v := ?_) (a' := ?_) #[true, true, true, true, true, true, true, true, false, false, false, false, false, false, false, false, false, false, false, false, false, false, false, false, false, false, false, false, false, false] rfl rfl (take_ofW HT_.out HW_.out (by kernel_rfl)) (fun _ _ _ h => h) (Or.inl ⟨by rfl, ?_⟩) hHeld ?_ ?_
                    rotate_left
                    · rintro w' ⟨s0, s1, s2, s3, s4, s5, s6, s7, s8, s9, s10, s11⟩
                      go_simp
                      with_reducible rfl
                    rotate_left
                    · simp only [Act.put, List.setIfInBounds_toArray, List.set_cons_zero, List.set_cons_succ, i64_w, i32_w]
                      rfl
                    refine pure_ (i := 8) (N := some 42) (v := ?_) (a' := ?_) #[true, true, true, true, true, true, true, true, true, false, false, false, false, false, false, false, false, false, false, false, false, false, false, false, false, false, false, false, false, false] rfl rfl (any_of HT_.out (by kernel_rfl)) (fun _ _ _ h => h) (Or.inl ⟨by rfl, ?_⟩) ?_ ?_
                    rotate_left
                    · intro w'
                      go_simp
                      with_reducible rfl
                    rotate_left
                    · simp only [Act.put, List.setIfInBounds_toArray, List.set_cons_zero, List.set_cons_succ, i64_w, i32_w]
                      rfl
                    refine pure_ (i := 9) (N := some 43) (v := ?_) (a' := ?_) #[true, true, true, true, true, true, true, true, true, true, false, false, false, false, false, false, false, false, false, false, false, false, false, false, false, false, false, false, false, false] rfl rfl (any_of HT_.out (by kernel_rfl)) (fun _ _ _ h => h) (Or.inl ⟨by rfl, ?_⟩) ?_ ?_
                    rotate_left
                    · intro w'
                      go_simp
                      with_reducible rfl
                    rotate_left
                    · simp only [Act.put, List.setIfInBounds_toArray, List.set_cons_zero, List.set_cons_succ, i64_w, i32_w]
                      rfl
                    refine pure_ (i := 10) (N := some 44) (v := ?_) (a' := ?_) #[true, true, true, true, true, true, true, true, true, true, true, false, false, false, false, false, false, false, false, false, false, false, false, false, false, false, false, false, false, false] rfl rfl (any_of HT_.out (by kernel_rfl)) (fun _ _ _ h => h) (Or.inl ⟨by rfl, ?_⟩) ?_ ?_
                    rotate_left
                    · intro w'
                      go_simp
                      with_reducible rfl
                    rotate_left
                    · simp only [Act.put, List.setIfInBounds_toArray, List.set_cons_zero, List.set_cons_succ, i64_w, i32_w]
                      rfl
                    refine take_ (i := 11) (N := some 45) (v := ?_) (a' := ?_) #[true, true, true, true, true, true, true, true, true, true, true, true, false, false, false, false, false, false, false, false, false, false, false, false, false, false, false, false, false, false] rfl rfl (take_ofW HT_.out HW_.out (by kernel_rfl)) (fun _ _ _ h => h) (Or.inl ⟨by rfl, ?_⟩) hHeld ?_ ?_
                    rotate_left
                    · rintro w' ⟨s0, s1, s2, s3, s4, s5, s6, s7, s8, s9, s10, s11⟩
                      go_simp
                      with_reducible rfl
                    rotate_left
                    · simp only [Act.put, List.setIfInBounds_toArray, List.set_cons_zero, List.set_cons_succ, i64_w, i32_w]
                      rfl
                    refine one_ (i := 12) (N := some 46) #[true, true, true, true, true, true, true, true, true, true, true, true, true, false, false, false, false, false, false, false, false, false, false, false, false, false, false, false, false, false] rfl rfl (one_of HT_.out (by kernel_rfl)) (by decide) (fun K hK => ?_)
                    refine goes_ Try.func45 (by kernel_rfl) rfl #[x.val A4 c4] (by rfl) rfl rfl (by simp only [List.map_toArray, List.map_cons, List.map_nil]; rfl) ?_
                    with_reducible refine ((HV _ (Below.refl _ _).drew).out).mono ?_
                    rintro e w3 ⟨r, rfl, hr, hb⟩
                    refine ⟨_, rfl, ?_⟩
                    have hbx := hb
                    have r1 := by_ver hr
                    refine hK.out _ _ ⟨pw_cell_below hb (hHeld.1), pw_cell_below hb (hHeld.2.1), pw_cell_below hb (hHeld.2.2.1), pw_cell_below hb (hHeld.2.2.2.1), pw_cell_below hb (hHeld.2.2.2.2.1), pw_cell_below hb (hHeld.2.2.2.2.2.1), pw_cell_below hb (hHeld.2.2.2.2.2.2.1), pw_cell_below hb (hHeld.2.2.2.2.2.2.2.1), pw_cell_below hb (hHeld.2.2.2.2.2.2.2.2.1), pw_cell_below hb (hHeld.2.2.2.2.2.2.2.2.2.1), pw_cell_below hb (hHeld.2.2.2.2.2.2.2.2.2.2.1), pw_cell_below hb (hHeld.2.2.2.2.2.2.2.2.2.2.2)⟩ (fun hHeld => ?_)
                    clear hK K
                    refine norm_ (a' := ?_) ?_ ?_
                    rotate_left
                    · show Act.put _ (some 46) _ = _
                      simp only [Act.put, List.setIfInBounds_toArray, List.set_cons_zero, List.set_cons_succ, i64_w, i32_w]
                      rfl
                    refine pure_ (i := 13) (N := some 47) (v := ?_) (a' := ?_) #[true, true, true, true, true, true, true, true, true, true, true, true, true, true, false, false, false, false, false, false, false, false, false, false, false, false, false, false, false, false] rfl rfl (any_of HT_.out (by kernel_rfl)) (fun _ _ _ h => h) (Or.inl ⟨by rfl, ?_⟩) ?_ ?_
                    rotate_left
                    · intro w'
                      go_simp
                      with_reducible rfl
                    rotate_left
                    · simp only [Act.put, List.setIfInBounds_toArray, List.set_cons_zero, List.set_cons_succ, i64_w, i32_w]
                      rfl
                    refine pure_ (i := 14) (N := some 48) (v := ?_) (a' := ?_) #[true, true, true, true, true, true, true, true, true, true, true, true, true, true, true, false, false, false, false, false, false, false, false, false, false, false, false, false, false, false] rfl rfl (any_of HT_.out (by kernel_rfl)) (fun _ _ _ h => h) (Or.inl ⟨by rfl, ?_⟩) ?_ ?_
                    rotate_left
                    · intro w'
                      go_simp
                      with_reducible rfl
                    rotate_left
                    · simp only [Act.put, List.setIfInBounds_toArray, List.set_cons_zero, List.set_cons_succ, i64_w, i32_w]
                      rfl
                    refine pure_ (i := 15) (N := some 49) (v := ?_) (a' := ?_) #[true, true, true, true, true, true, true, true, true, true, true, true, true, true, true, true, false, false, false, false, false, false, false, false, false, false, false, false, false, false] rfl rfl (any_of HT_.out (by kernel_rfl)) (fun _ _ _ h => h) (Or.inl ⟨by rfl, ?_⟩) ?_ ?_
                    rotate_left
                    · intro w'
                      go_simp
                      with_reducible rfl
                    rotate_left
                    · simp only [Act.put, List.setIfInBounds_toArray, List.set_cons_zero, List.set_cons_succ, i64_w, i32_w]
                      rfl
                    refine pure_ (i := 16) (N := some 50) (v := ?_) (a' := ?_) #[true, true, true, true, true, true, true, true, true, true, true, true, true, true, true, true, true, false, false, false, false, false, false, false, false, false, false, false, false, false] rfl rfl (any_of HT_.out (by kernel_rfl)) (fun _ _ _ h => h) (Or.inl ⟨by rfl, ?_⟩) ?_ ?_
                    rotate_left
                    · intro w'
                      go_simp
                      with_reducible rfl
                    rotate_left
                    · simp only [Act.put, List.setIfInBounds_toArray, List.set_cons_zero, List.set_cons_succ, i64_w, i32_w]
                      rfl
                    refine pure_ (i := 17) (N := some 51) (v := ?_) (a' := ?_) #[true, true, true, true, true, true, true, true, true, true, true, true, true, true, true, true, true, true, false, false, false, false, false, false, false, false, false, false, false, false] rfl rfl (any_of HT_.out (by kernel_rfl)) (fun _ _ _ h => h) (Or.inl ⟨by rfl, ?_⟩) ?_ ?_
                    rotate_left
                    · intro w'
                      go_simp
                      with_reducible rfl
                    rotate_left
                    · simp only [Act.put, List.setIfInBounds_toArray, List.set_cons_zero, List.set_cons_succ, i64_w, i32_w]
                      rfl
                    refine pure_ (i := 18) (N := some 52) (v := ?_) (a' := ?_) #[true, true, true, true, true, true, true, true, true, true, true, true, true, true, true, true, true, true, true, false, false, false, false, false, false, false, false, false, false, false] rfl rfl (any_of HT_.out (by kernel_rfl)) (fun _ _ _ h => h) (Or.inl ⟨by rfl, ?_⟩) ?_ ?_
                    rotate_left
                    · intro w'
                      go_simp
                      with_reducible rfl
                    rotate_left
                    · simp only [Act.put, List.setIfInBounds_toArray, List.set_cons_zero, List.set_cons_succ, i64_w, i32_w]
                      rfl
                    refine pure_ (i := 19) (N := some 53) (v := ?_) (a' := ?_) #[true, true, true, true, true, true, true, true, true, true, true, true, true, true, true, true, true, true, true, true, false, false, false, false, false, false, false, false, false, false] rfl rfl (any_of HT_.out (by kernel_rfl)) (fun _ _ _ h => h) (Or.inl ⟨by rfl, ?_⟩) ?_ ?_
                    rotate_left
                    · intro w'
                      go_simp
                      with_reducible rfl
                    rotate_left
                    · simp only [Act.put, List.setIfInBounds_toArray, List.set_cons_zero, List.set_cons_succ, i64_w, i32_w]
                      rfl
                    refine pure_ (i := 21) (N := some 55) (v := ?_) (a' := ?_) #[true, true, true, true, true, true, true, true, true, true, true, true, true, true, true, true, true, true, true, true, false, true, false, false, false, false, false, false, false, false] rfl rfl (any_of HT_.out (by kernel_rfl)) (fun _ _ _ h => h) (Or.inl ⟨by rfl, ?_⟩) ?_ ?_
                    rotate_left
                    · intro w'
                      go_simp
                      with_reducible rfl
                    rotate_left
                    · simp only [Act.put, List.setIfInBounds_toArray, List.set_cons_zero, List.set_cons_succ, i64_w, i32_w]
                      rfl
                    refine pure_ (i := 22) (N := some 56) (v := ?_) (a' := ?_) #[true, true, true, true, true, true, true, true, true, true, true, true, true, true, true, true, true, true, true, true, false, true, true, false, false, false, false, false, false, false] rfl rfl (any_of HT_.out (by kernel_rfl)) (fun _ _ _ h => h) (Or.inl ⟨by rfl, ?_⟩) ?_ ?_
                    rotate_left
                    · intro w'
                      go_simp
                      with_reducible rfl
                    rotate_left
                    · simp only [Act.put, List.setIfInBounds_toArray, List.set_cons_zero, List.set_cons_succ, i64_w, i32_w]
                      rfl
                    refine take_ (i := 20) (N := some 54) (v := ?_) (a' := ?_) #[true, true, true, true, true, true, true, true, true, true, true, true, true, true, true, true, true, true, true, true, true, true, true, false, false, false, false, false, false, false] rfl rfl (take_ofW HT_.out HW_.out (by kernel_rfl)) (fun _ _ _ h => h) (Or.inl ⟨by rfl, ?_⟩) hHeld ?_ ?_
                    rotate_left
                    · rintro w' ⟨s0, s1, s2, s3, s4, s5, s6, s7, s8, s9, s10, s11⟩
                      go_simp
                      with_reducible rfl
                    rotate_left
                    · simp only [Act.put, List.setIfInBounds_toArray, List.set_cons_zero, List.set_cons_succ, i64_w, i32_w]
                      rfl
                    refine pure_ (i := 23) (N := some 57) (v := ?_) (a' := ?_) #[true, true, true, true, true, true, true, true, true, true, true, true, true, true, true, true, true, true, true, true, true, true, true, true, false, false, false, false, false, false] rfl rfl (any_of HT_.out (by kernel_rfl)) (fun _ _ _ h => h) (Or.inl ⟨by rfl, ?_⟩) ?_ ?_
                    rotate_left
                    · intro w'
                      go_simp
                      with_reducible rfl
                    rotate_left
                    · simp only [Act.put, List.setIfInBounds_toArray, List.set_cons_zero, List.set_cons_succ, i64_w, i32_w]
                      rfl
                    refine take_ (i := 24) (N := some 58) (v := ?_) (a' := ?_) #[true, true, true, true, true, true, true, true, true, true, true, true, true, true, true, true, true, true, true, true, true, true, true, true, true, false, false, false, false, false] rfl rfl (take_ofW HT_.out HW_.out (by kernel_rfl)) (fun _ _ _ h => h) (Or.inl ⟨by rfl, ?_⟩) hHeld ?_ ?_
                    rotate_left
                    · rintro w' ⟨s0, s1, s2, s3, s4, s5, s6, s7, s8, s9, s10, s11⟩
                      go_simp
                      with_reducible rfl
                    rotate_left
                    · simp only [Act.put, List.setIfInBounds_toArray, List.set_cons_zero, List.set_cons_succ, i64_w, i32_w]
                      rfl
                    refine take_ (i := 25) (N := some 59) (v := ?_) (a' := ?_) #[true, true, true, true, true, true, true, true, true, true, true, true, true, true, true, true, true, true, true, true, true, true, true, true, true, true, false, false, false, false] rfl rfl (take_ofW HT_.out HW_.out (by kernel_rfl)) (fun _ _ _ h => h) (Or.inl ⟨by rfl, ?_⟩) hHeld ?_ ?_
                    rotate_left
                    · rintro w' ⟨s0, s1, s2, s3, s4, s5, s6, s7, s8, s9, s10, s11⟩
                      go_simp
                      with_reducible rfl
                    rotate_left
                    · simp only [Act.put, List.setIfInBounds_toArray, List.set_cons_zero, List.set_cons_succ, i64_w, i32_w]
                      rfl
                    refine one_ (i := 26) (N := some 60) #[true, true, true, true, true, true, true, true, true, true, true, true, true, true, true, true, true, true, true, true, true, true, true, true, true, true, true, false, false, false] rfl rfl (one_of HT_.out (by kernel_rfl)) (by decide) (fun K hK => ?_)
                    refine goes_ Try.func46 (by kernel_rfl) rfl #[y.val B4 d4, x.val A4 c4] (by rfl) rfl rfl (by simp only [List.map_toArray, List.map_cons, List.map_nil]; rfl) ?_
                    with_reducible refine ((HA _).out).mono ?_
                    rintro e w3 ⟨rfl, hb⟩
                    refine ⟨_, rfl, ?_⟩
                    have hby := hb
                    refine hK.out _ _ ⟨pw_cell_below hb (hHeld.1), pw_cell_below hb (hHeld.2.1), pw_cell_below hb (hHeld.2.2.1), pw_cell_below hb (hHeld.2.2.2.1), pw_cell_below hb (hHeld.2.2.2.2.1), pw_cell_below hb (hHeld.2.2.2.2.2.1), pw_cell_below hb (hHeld.2.2.2.2.2.2.1), pw_cell_below hb (hHeld.2.2.2.2.2.2.2.1), pw_cell_below hb (hHeld.2.2.2.2.2.2.2.2.1), pw_cell_below hb (hHeld.2.2.2.2.2.2.2.2.2.1), pw_cell_below hb (hHeld.2.2.2.2.2.2.2.2.2.2.1), pw_cell_below hb (hHeld.2.2.2.2.2.2.2.2.2.2.2)⟩ (fun hHeld => ?_)
                    clear hK K
                    refine norm_ (a' := ?_) ?_ ?_
                    rotate_left
                    · show Act.put _ (some 60) _ = _
                      simp only [Act.put, List.setIfInBounds_toArray, List.set_cons_zero, List.set_cons_succ, i64_w, i32_w]
                      rfl
                    refine pure_ (i := 27) (N := some 61) (v := ?_) (a' := ?_) #[true, true, true, true, true, true, true, true, true, true, true, true, true, true, true, true, true, true, true, true, true, true, true, true, true, true, true, true, false, false] rfl rfl (any_of HT_.out (by kernel_rfl)) (fun _ _ _ h => h) (Or.inl ⟨by rfl, ?_⟩) ?_ ?_
                    rotate_left
                    · intro w'
                      go_simp
                      with_reducible rfl
                    rotate_left
                    · simp only [Act.put, List.setIfInBounds_toArray, List.set_cons_zero, List.set_cons_succ, i64_w, i32_w]
                      rfl
                    refine pure_ (i := 28) (N := some 62) (v := ?_) (a' := ?_) #[true, true, true, true, true, true, true, true, true, true, true, true, true, true, true, true, true, true, true, true, true, true, true, true, true, true, true, true, true, false] rfl rfl (any_of HT_.out (by kernel_rfl)) (fun _ _ _ h => h) (Or.inl ⟨by rfl, ?_⟩) ?_ ?_
                    rotate_left
                    · intro w'
                      go_simp
                      with_reducible rfl
                    rotate_left
                    · simp only [Act.put, List.setIfInBounds_toArray, List.set_cons_zero, List.set_cons_succ, i64_w, i32_w]
                      rfl
                    refine pure_ (i := 29) (N := some 63) (v := ?_) (a' := ?_) #[true, true, true, true, true, true, true, true, true, true, true, true, true, true, true, true, true, true, true, true, true, true, true, true, true, true, true, true, true, true] rfl rfl (any_of HT_.out (by kernel_rfl)) (fun _ _ _ h => h) (Or.inl ⟨by rfl, ?_⟩) ?_ ?_
                    rotate_left
                    · intro w'
                      go_simp
                      with_reducible rfl
                    rotate_left
                    · simp only [Act.put, List.setIfInBounds_toArray, List.set_cons_zero, List.set_cons_succ, i64_w, i32_w]
                      rfl
                    refine done_ (done_of HT_.out (by kernel_rfl)) ?_
                    go_wp2
                    go_ret
                    exact ⟨ret_bool hbad.out.symm, hbw.trans ((hbW.drew.trans ((hbx.trans (hby.mono hbx.size)).mono hbW.drew.size)).mono (by omega))⟩
                  | true =>
                    rw [q5] at HA
                    refine start_ (n := 30) (S := fun w' => w'.cell? ⟨gv, 0, none⟩ = some (.string x.key) ∧ w'.cell? ⟨gv, 1, none⟩ = some (.int .i64 x.seq) ∧ w'.cell? ⟨gv, 2, none⟩ = some (.bool x.gone) ∧ w'.cell? ⟨gv, 3, none⟩ = some (.string x.data) ∧ w'.cell? ⟨gv, 4, none⟩ = some (.slice A4 x.pairs.length c4) ∧ w'.cell? ⟨w.heap.size, 0, none⟩ = some (.int .i64 nx) ∧ w'.cell? ⟨w.heap.size, 1, none⟩ = some (.slice (some ad) l.length c) ∧ w'.cell? (ad.add (j * 5)) = some (.string y.key) ∧ w'.cell? ⟨(ad.add (j * 5)).block, (ad.add (j * 5)).off + 1, none⟩ = some (.int .i64 y.seq) ∧ w'.cell? ⟨(ad.add (j * 5)).block, (ad.add (j * 5)).off + 2, none⟩ = some (.bool y.gone) ∧ w'.cell? ⟨(ad.add (j * 5)).block, (ad.add (j * 5)).off + 3, none⟩ = some (.string y.data) ∧ w'.cell? ⟨(ad.add (j * 5)).block, (ad.add (j * 5)).off + 4, none⟩ = some (.slice B4 y.pairs.length d4)) (ds := []) #[false, false, false, false, false, false, false, false, false, false, false, false, false, false, false, false, false, false, false, false, false, false, false, false, false, false, false, false, false, false] (by kernel_rfl) rfl rfl ⟨v0, v1, v2, v3, v4, b0, b1, y0, y1, y2, y3, y4⟩ (fun hHeld => ?_)
                    refine with_tabW bR.tab7 bR.bits7 (fun HT_ HW_ => ?_)
                    refine pure_ (i := 0) (N := some 34) (v := ?_) (a' := ?_) #[true, false, false, false, false, false, false, false, false, false, false, false, false, false, false, false, false, false, false, false, false, false, false, false, false, false, false, false, false, false] rfl rfl (any_of HT_.out (by kernel_rfl)) (fun _ _ _ h => h) (Or.inl ⟨by rfl, ?_⟩) ?_ ?_
                    rotate_left
                    · intro w'
                      go_simp
                      with_reducible rfl
                    rotate_left
                    · simp only [Act.put, List.setIfInBounds_toArray, List.set_cons_zero, List.set_cons_succ, i64_w, i32_w]
                      rfl
                    refine take_ (i := 1) (N := some 35) (v := ?_) (a' := ?_) #[true, true, false, false, false, false, false, false, false, false, false, false, false, false, false, false, false, false, false, false, false, false, false, false, false, false, false, false, false, false] rfl rfl (take_ofW HT_.out HW_.out (by kernel_rfl)) (fun _ _ _ h => h) (Or.inl ⟨by rfl, ?_⟩) hHeld ?_ ?_
                    rotate_left
                    · rintro w' ⟨s0, s1, s2, s3, s4, s5, s6, s7, s8, s9, s10, s11⟩
                      go_simp
                      with_reducible rfl
                    rotate_left
                    · simp only [Act.put, List.setIfInBounds_toArray, List.set_cons_zero, List.set_cons_succ, i64_w, i32_w]
                      rfl
                    refine pure_ (i := 2) (N := some 36) (v := ?_) (a' := ?_) #[true, true, true, false, false, false, false, false, false, false, false, false, false, false, false, false, false, false, false, false, false, false, false, false, false, false, false, false, false, false] rfl rfl (any_of HT_.out (by kernel_rfl)) (fun _ _ _ h => h) (Or.inl ⟨by rfl, ?_⟩) ?_ ?_
                    rotate_left
                    · intro w'
                      go_simp
                      with_reducible rfl
                    rotate_left
                    · simp only [Act.put, List.setIfInBounds_toArray, List.set_cons_zero, List.set_cons_succ, i64_w, i32_w]
                      rfl
                    refine pure_ (i := 3) (N := some 37) (v := ?_) (a' := ?_) #[true, true, true, true, false, false, false, false, false, false, false, false, false, false, false, false, false, false, false, false, false, false, false, false, false, false, false, false, false, false] rfl rfl (any_of HT_.out (by kernel_rfl)) (fun _ _ _ h => h) (Or.inl ⟨by rfl, ?_⟩) ?_ ?_
                    rotate_left
                    · intro w'
                      go_simp
                      with_reducible rfl
                    rotate_left
                    · simp only [Act.put, List.setIfInBounds_toArray, List.set_cons_zero, List.set_cons_succ, i64_w, i32_w]
                      rfl
                    refine pure_ (i := 4) (N := some 38) (v := ?_) (a' := ?_) #[true, true, true, true, true, false, false, false, false, false, false, false, false, false, false, false, false, false, false, false, false, false, false, false, false, false, false, false, false, false] rfl rfl (any_of HT_.out (by kernel_rfl)) (fun _ _ _ h => h) (Or.inl ⟨by rfl, ?_⟩) ?_ ?_
                    rotate_left
                    · intro w'
                      go_simp
                      with_reducible rfl
                    rotate_left
                    · simp only [Act.put, List.setIfInBounds_toArray, List.set_cons_zero, List.set_cons_succ, i64_w, i32_w]
                      rfl
                    refine pure_ (i := 6) (N := some 40) (v := ?_) (a' := ?_) #[true, true, true, true, true, false, true, false, false, false, false, false, false, false, false, false, false, false, false, false, false, false, false, false, false, false, false, false, false, false] rfl rfl (any_of HT_.out (by kernel_rfl)) (fun _ _ _ h => h) (Or.inl ⟨by rfl, ?_⟩) ?_ ?_
                    rotate_left
                    · intro w'
                      go_simp
                      with_reducible rfl
                    rotate_left
                    · simp only [Act.put, List.setIfInBounds_toArray, List.set_cons_zero, List.set_cons_succ, i64_w, i32_w]
                      rfl
                    refine take_ (i := 5) (N := some 39) (v := ?_) (a' := ?_) #[true, true, true, true, true, true, true, false, false, false, false, false, false, false, false, false, false, false, false, false, false, false, false, false, false, false, false, false, false, false] rfl rfl (take_ofW HT_.out HW_.out (by kernel_rfl)) (fun _ _ _ h => h) (Or.inl ⟨by rfl, ?_⟩) hHeld ?_ ?_
                    rotate_left
                    · rintro w' ⟨s0, s1, s2, s3, s4, s5, s6, s7, s8, s9, s10, s11⟩
                      go_simp
                      with_reducible rfl
                    rotate_left
                    · simp only [Act.put, List.setIfInBounds_toArray, List.set_cons_zero, List.set_cons_succ, i64_w, i32_w]
                      rfl
                    refine take_ (i := 7) (N := some 41) (v := ?_) (a' := ?_) #[true, true, true, true, true, true, true, true, false, false, false, false, false, false, false, false, false, false, false, false, false, false, false, false, false, false, false, false, false, false] rfl rfl (take_ofW HT_.out HW_.out (by kernel_rfl)) (fun _ _ _ h => h) (Or.inl ⟨by rfl, ?_⟩) hHeld ?_ ?_
                    rotate_left
                    · rintro w' ⟨s0, s1, s2, s3, s4, s5, s6, s7, s8, s9, s10, s11⟩
                      go_simp
                      with_reducible rfl
                    rotate_left
                    · simp only [Act.put, List.setIfInBounds_toArray, List.set_cons_zero, List.set_cons_succ, i64_w, i32_w]
                      rfl
                    refine pure_ (i := 8) (N := some 42) (v := ?_) (a' := ?_) #[true, true, true, true, true, true, true, true, true, false, false, false, false, false, false, false, false, false, false, false, false, false, false, false, false, false, false, false, false, false] rfl rfl (any_of HT_.out (by kernel_rfl)) (fun _ _ _ h => h) (Or.inl ⟨by rfl, ?_⟩) ?_ ?_
                    rotate_left
                    · intro w'
                      go_simp
                      with_reducible rfl
                    rotate_left
                    · simp only [Act.put, List.setIfInBounds_toArray, List.set_cons_zero, List.set_cons_succ, i64_w, i32_w]
                      rfl
                    refine pure_ (i := 9) (N := some 43) (v := ?_) (a' := ?_) #[true, true, true, true, true, true, true, true, true, true, false, false, false, false, false, false, false, false, false, false, false, false, false, false, false, false, false, false, false, false] rfl rfl (any_of HT_.out (by kernel_rfl)) (fun _ _ _ h => h) (Or.inl ⟨by rfl, ?_⟩) ?_ ?_
                    rotate_left
                    · intro w'
                      go_simp
                      with_reducible rfl
                    rotate_left
                    · simp only [Act.put, List.setIfInBounds_toArray, List.set_cons_zero, List.set_cons_succ, i64_w, i32_w]
                      rfl
                    refine pure_ (i := 10) (N := some 44) (v := ?_) (a' := ?_) #[true, true, true, true, true, true, true, true, true, true, true, false, false, false, false, false, false, false, false, false, false, false, false, false, false, false, false, false, false, false] rfl rfl (any_of HT_.out (by kernel_rfl)) (fun _ _ _ h => h) (Or.inl ⟨by rfl, ?_⟩) ?_ ?_
                    rotate_left
                    · intro w'
                      go_simp
                      with_reducible rfl
                    rotate_left
                    · simp only [Act.put, List.setIfInBounds_toArray, List.set_cons_zero, List.set_cons_succ, i64_w, i32_w]
                      rfl
                    refine take_ (i := 11) (N := some 45) (v := ?_) (a' := ?_) #[true, true, true, true, true, true, true, true, true, true, true, true, false, false, false, false, false, false, false, false, false, false, false, false, false, false, false, false, false, false] rfl rfl (take_ofW HT_.out HW_.out (by kernel_rfl)) (fun _ _ _ h => h) (Or.inl ⟨by rfl, ?_⟩) hHeld ?_ ?_
                    rotate_left
                    · rintro w' ⟨s0, s1, s2, s3, s4, s5, s6, s7, s8, s9, s10, s11⟩
                      go_simp
                      with_reducible rfl
                    rotate_left
                    · simp only [Act.put, List.setIfInBounds_toArray, List.set_cons_zero, List.set_cons_succ, i64_w, i32_w]
                      rfl
                    refine one_ (i := 12) (N := some 46) #[true, true, true, true, true, true, true, true, true, true, true, true, true, false, false, false, false, false, false, false, false, false, false, false, false, false, false, false, false, false] rfl rfl (one_of HT_.out (by kernel_rfl)) (by decide) (fun K hK => ?_)
                    refine goes_ Try.func45 (by kernel_rfl) rfl #[x.val A4 c4] (by rfl) rfl rfl (by simp only [List.map_toArray, List.map_cons, List.map_nil]; rfl) ?_
                    with_reducible refine ((HV _ (Below.refl _ _).drew).out).mono ?_
                    rintro e w3 ⟨r, rfl, hr, hb⟩
                    refine ⟨_, rfl, ?_⟩
                    have hbx := hb
                    have r1 := by_ver hr
                    refine hK.out _ _ ⟨pw_cell_below hb (hHeld.1), pw_cell_below hb (hHeld.2.1), pw_cell_below hb (hHeld.2.2.1), pw_cell_below hb (hHeld.2.2.2.1), pw_cell_below hb (hHeld.2.2.2.2.1), pw_cell_below hb (hHeld.2.2.2.2.2.1), pw_cell_below hb (hHeld.2.2.2.2.2.2.1), pw_cell_below hb (hHeld.2.2.2.2.2.2.2.1), pw_cell_below hb (hHeld.2.2.2.2.2.2.2.2.1), pw_cell_below hb (hHeld.2.2.2.2.2.2.2.2.2.1), pw_cell_below hb (hHeld.2.2.2.2.2.2.2.2.2.2.1), pw_cell_below hb (hHeld.2.2.2.2.2.2.2.2.2.2.2)⟩ (fun hHeld => ?_)
                    clear hK K
                    refine norm_ (a' := ?_) ?_ ?_
                    rotate_left
                    · show Act.put _ (some 46) _ = _
                      simp only [Act.put, List.setIfInBounds_toArray, List.set_cons_zero, List.set_cons_succ, i64_w, i32_w]
                      rfl
                    refine pure_ (i := 13) (N := some 47) (v := ?_) (a' := ?_) #[true, true, true, true, true, true, true, true, true, true, true, true, true, true, false, false, false, false, false, false, false, false, false, false, false, false, false, false, false, false] rfl rfl (any_of HT_.out (by kernel_rfl)) (fun _ _ _ h => h) (Or.inl ⟨by rfl, ?_⟩) ?_ ?_
                    rotate_left
                    · intro w'
                      go_simp
                      with_reducible rfl
                    rotate_left
                    · simp only [Act.put, List.setIfInBounds_toArray, List.set_cons_zero, List.set_cons_succ, i64_w, i32_w]
                      rfl
                    refine pure_ (i := 14) (N := some 48) (v := ?_) (a' := ?_) #[true, true, true, true, true, true, true, true, true, true, true, true, true, true, true, false, false, false, false, false, false, false, false, false, false, false, false, false, false, false] rfl rfl (any_of HT_.out (by kernel_rfl)) (fun _ _ _ h => h) (Or.inl ⟨by rfl, ?_⟩) ?_ ?_
                    rotate_left
                    · intro w'
                      go_simp
                      with_reducible rfl
                    rotate_left
                    · simp only [Act.put, List.setIfInBounds_toArray, List.set_cons_zero, List.set_cons_succ, i64_w, i32_w]
                      rfl
                    refine pure_ (i := 15) (N := some 49) (v := ?_) (a' := ?_) #[true, true, true, true, true, true, true, true, true, true, true, true, true, true, true, true, false, false, false, false, false, false, false, false, false, false, false, false, false, false] rfl rfl (any_of HT_.out (by kernel_rfl)) (fun _ _ _ h => h) (Or.inl ⟨by rfl, ?_⟩) ?_ ?_
                    rotate_left
                    · intro w'
                      go_simp
                      with_reducible rfl
                    rotate_left
                    · simp only [Act.put, List.setIfInBounds_toArray, List.set_cons_zero, List.set_cons_succ, i64_w, i32_w]
                      rfl
                    refine pure_ (i := 16) (N := some 50) (v := ?_) (a' := ?_) #[true, true, true, true, true, true, true, true, true, true, true, true, true, true, true, true, true, false, false, false, false, false, false, false, false, false, false, false, false, false] rfl rfl (any_of HT_.out (by kernel_rfl)) (fun _ _ _ h => h) (Or.inl ⟨by rfl, ?_⟩) ?_ ?_
                    rotate_left
                    · intro w'
                      go_simp
                      with_reducible rfl
                    rotate_left
                    · simp only [Act.put, List.setIfInBounds_toArray, List.set_cons_zero, List.set_cons_succ, i64_w, i32_w]
                      rfl
                    refine pure_ (i := 17) (N := some 51) (v := ?_) (a' := ?_) #[true, true, true, true, true, true, true, true, true, true, true, true, true, true, true, true, true, true, false, false, false, false, false, false, false, false, false, false, false, false] rfl rfl (any_of HT_.out (by kernel_rfl)) (fun _ _ _ h => h) (Or.inl ⟨by rfl, ?_⟩) ?_ ?_
                    rotate_left
                    · intro w'
                      go_simp
                      with_reducible rfl
                    rotate_left
                    · simp only [Act.put, List.setIfInBounds_toArray, List.set_cons_zero, List.set_cons_succ, i64_w, i32_w]
                      rfl
                    refine pure_ (i := 18) (N := some 52) (v := ?_) (a' := ?_) #[true, true, true, true, true, true, true, true, true, true, true, true, true, true, true, true, true, true, true, false, false, false, false, false, false, false, false, false, false, false] rfl rfl (any_of HT_.out (by kernel_rfl)) (fun _ _ _ h => h) (Or.inl ⟨by rfl, ?_⟩) ?_ ?_
                    rotate_left
                    · intro w'
                      go_simp
                      with_reducible rfl
                    rotate_left
                    · simp only [Act.put, List.setIfInBounds_toArray, List.set_cons_zero, List.set_cons_succ, i64_w, i32_w]
                      rfl
                    refine pure_ (i := 19) (N := some 53) (v := ?_) (a' := ?_) #[true, true, true, true, true, true, true, true, true, true, true, true, true, true, true, true, true, true, true, true, false, false, false, false, false, false, false, false, false, false] rfl rfl (any_of HT_.out (by kernel_rfl)) (fun _ _ _ h => h) (Or.inl ⟨by rfl, ?_⟩) ?_ ?_
                    rotate_left
                    · intro w'
                      go_simp
                      with_reducible rfl
                    rotate_left
                    · simp only [Act.put, List.setIfInBounds_toArray, List.set_cons_zero, List.set_cons_succ, i64_w, i32_w]
                      rfl
                    refine pure_ (i := 21) (N := some 55) (v := ?_) (a' := ?_) #[true, true, true, true, true, true, true, true, true, true, true, true, true, true, true, true, true, true, true, true, false, true, false, false, false, false, false, false, false, false] rfl rfl (any_of HT_.out (by kernel_rfl)) (fun _ _ _ h => h) (Or.inl ⟨by rfl, ?_⟩) ?_ ?_
                    rotate_left
                    · intro w'
                      go_simp
                      with_reducible rfl
                    rotate_left
                    · simp only [Act.put, List.setIfInBounds_toArray, List.set_cons_zero, List.set_cons_succ, i64_w, i32_w]
                      rfl
                    refine pure_ (i := 22) (N := some 56) (v := ?_) (a' := ?_) #[true, true, true, true, true, true, true, true, true, true, true, true, true, true, true, true, true, true, true, true, false, true, true, false, false, false, false, false, false, false] rfl rfl (any_of HT_.out (by kernel_rfl)) (fun _ _ _ h => h) (Or.inl ⟨by rfl, ?_⟩) ?_ ?_
                    rotate_left
                    · intro w'
                      go_simp
                      with_reducible rfl
                    rotate_left
                    · simp only [Act.put, List.setIfInBounds_toArray, List.set_cons_zero, List.set_cons_succ, i64_w, i32_w]
                      rfl
                    refine take_ (i := 20) (N := some 54) (v := ?_) (a' := ?_) #[true, true, true, true, true, true, true, true, true, true, true, true, true, true, true, true, true, true, true, true, true, true, true, false, false, false, false, false, false, false] rfl rfl (take_ofW HT_.out HW_.out (by kernel_rfl)) (fun _ _ _ h => h) (Or.inl ⟨by rfl, ?_⟩) hHeld ?_ ?_
                    rotate_left
                    · rintro w' ⟨s0, s1, s2, s3, s4, s5, s6, s7, s8, s9, s10, s11⟩
                      go_simp
                      with_reducible rfl
                    rotate_left
                    · simp only [Act.put, List.setIfInBounds_toArray, List.set_cons_zero, List.set_cons_succ, i64_w, i32_w]
                      rfl
                    refine pure_ (i := 23) (N := some 57) (v := ?_) (a' := ?_) #[true, true, true, true, true, true, true, true, true, true, true, true, true, true, true, true, true, true, true, true, true, true, true, true, false, false, false, false, false, false] rfl rfl (any_of HT_.out (by kernel_rfl)) (fun _ _ _ h => h) (Or.inl ⟨by rfl, ?_⟩) ?_ ?_
                    rotate_left
                    · intro w'
                      go_simp
                      with_reducible rfl
                    rotate_left
                    · simp only [Act.put, List.setIfInBounds_toArray, List.set_cons_zero, List.set_cons_succ, i64_w, i32_w]
                      rfl
                    refine take_ (i := 24) (N := some 58) (v := ?_) (a' := ?_) #[true, true, true, true, true, true, true, true, true, true, true, true, true, true, true, true, true, true, true, true, true, true, true, true, true, false, false, false, false, false] rfl rfl (take_ofW HT_.out HW_.out (by kernel_rfl)) (fun _ _ _ h => h) (Or.inl ⟨by rfl, ?_⟩) hHeld ?_ ?_
                    rotate_left
                    · rintro w' ⟨s0, s1, s2, s3, s4, s5, s6, s7, s8, s9, s10, s11⟩
                      go_simp
                      with_reducible rfl
                    rotate_left
                    · simp only [Act.put, List.setIfInBounds_toArray, List.set_cons_zero, List.set_cons_succ, i64_w, i32_w]
                      rfl
                    refine take_ (i := 25) (N := some 59) (v := ?_) (a' := ?_) #[true, true, true, true, true, true, true, true, true, true, true, true, true, true, true, true, true, true, true, true, true, true, true, true, true, true, false, false, false, false] rfl rfl (take_ofW HT_.out HW_.out (by kernel_rfl)) (fun _ _ _ h => h) (Or.inl ⟨by rfl, ?_⟩) hHeld ?_ ?_
                    rotate_left
                    · rintro w' ⟨s0, s1, s2, s3, s4, s5, s6, s7, s8, s9, s10, s11⟩
                      go_simp
                      with_reducible rfl
                    rotate_left
                    · simp only [Act.put, List.setIfInBounds_toArray, List.set_cons_zero, List.set_cons_succ, i64_w, i32_w]
                      rfl
                    refine one_ (i := 26) (N := some 60) #[true, true, true, true, true, true, true, true, true, true, true, true, true, true, true, true, true, true, true, true, true, true, true, true, true, true, true, false, false, false] rfl rfl (one_of HT_.out (by kernel_rfl)) (by decide) (fun K hK => ?_)
                    refine goes_ Try.func46 (by kernel_rfl) rfl #[y.val B4 d4, x.val A4 c4] (by rfl) rfl rfl (by simp only [List.map_toArray, List.map_cons, List.map_nil]; rfl) ?_
                    with_reducible refine ((HA _).out).mono ?_
                    rintro e w3 ⟨rfl, hb⟩
                    refine ⟨_, rfl, ?_⟩
                    have hby := hb
                    refine hK.out _ _ ⟨pw_cell_below hb (hHeld.1), pw_cell_below hb (hHeld.2.1), pw_cell_below hb (hHeld.2.2.1), pw_cell_below hb (hHeld.2.2.2.1), pw_cell_below hb (hHeld.2.2.2.2.1), pw_cell_below hb (hHeld.2.2.2.2.2.1), pw_cell_below hb (hHeld.2.2.2.2.2.2.1), pw_cell_below hb (hHeld.2.2.2.2.2.2.2.1), pw_cell_below hb (hHeld.2.2.2.2.2.2.2.2.1), pw_cell_below hb (hHeld.2.2.2.2.2.2.2.2.2.1), pw_cell_below hb (hHeld.2.2.2.2.2.2.2.2.2.2.1), pw_cell_below hb (hHeld.2.2.2.2.2.2.2.2.2.2.2)⟩ (fun hHeld => ?_)
                    clear hK K
                    refine norm_ (a' := ?_) ?_ ?_
                    rotate_left
                    · show Act.put _ (some 60) _ = _
                      simp only [Act.put, List.setIfInBounds_toArray, List.set_cons_zero, List.set_cons_succ, i64_w, i32_w]
                      rfl
                    refine pure_ (i := 27) (N := some 61) (v := ?_) (a' := ?_) #[true, true, true, true, true, true, true, true, true, true, true, true, true, true, true, true, true, true, true, true, true, true, true, true, true, true, true, true, false, false] rfl rfl (any_of HT_.out (by kernel_rfl)) (fun _ _ _ h => h) (Or.inl ⟨by rfl, ?_⟩) ?_ ?_
                    rotate_left
                    · intro w'
                      go_simp
                      with_reducible rfl
                    rotate_left
                    · simp only [Act.put, List.setIfInBounds_toArray, List.set_cons_zero, List.set_cons_succ, i64_w, i32_w]
                      rfl
                    refine pure_ (i := 28) (N := some 62) (v := ?_) (a' := ?_) #[true, true, true, true, true, true, true, true, true, true, true, true, true, true, true, true, true, true, true, true, true, true, true, true, true, true, true, true, true, false] rfl rfl (any_of HT_.out (by kernel_rfl)) (fun _ _ _ h => h) (Or.inl ⟨by rfl, ?_⟩) ?_ ?_
                    rotate_left
                    · intro w'
                      go_simp
                      with_reducible rfl
                    rotate_left
                    · simp only [Act.put, List.setIfInBounds_toArray, List.set_cons_zero, List.set_cons_succ, i64_w, i32_w]
                      rfl
                    refine pure_ (i := 29) (N := some 63) (v := ?_) (a' := ?_) #[true, true, true, true, true, true, true, true, true, true, true, true, true, true, true, true, true, true, true, true, true, true, true, true, true, true, true, true, true, true] rfl rfl (any_of HT_.out (by kernel_rfl)) (fun _ _ _ h => h) (Or.inl ⟨by rfl, ?_⟩) ?_ ?_
                    rotate_left
                    · intro w'
                      go_simp
                      with_reducible rfl
                    rotate_left
                    · simp only [Act.put, List.setIfInBounds_toArray, List.set_cons_zero, List.set_cons_succ, i64_w, i32_w]
                      rfl
                    refine done_ (done_of HT_.out (by kernel_rfl)) ?_
                    clear hwj hjl2
                    have z1 := hHeld.2.1
                    have own3 := own_below (own_below (w := W.drew) own1 hbx hszW) hby (Nat.le_trans hszW hbx.size)
                    have bel3 : Below wm.heap.size wm w3 := hbW.drew.trans ((hbx.trans (hby.mono hbx.size)).mono (Nat.le_of_succ_le hszW))
                    have hgs := World.block_lt_of_cell? w3 _ z1
                    have hs3 : wm.heap.size + 1 ≤ w3.heap.size := Nat.le_trans hgv (Nat.le_of_lt hgs)
                    have hkey : keyOf Try.prog 2 (.int .i64 x.seq) = some (.int .i64 x.seq) := keyOf_int_mk Try.underlying2 (wf_seq q1 q2 n2)
                    have hkm : (j + 1) < maxLen := by unfold maxLen; omega
                    cases q6 : apartTo l ((j + 1)) ((j + 1)) with
                    | false =>
                      have hbad := Lib.hid (rightV_bad hlt (gd_no (nx := nx) HX.out (.inr (.inr (.inr (.inr q6))))))
                      have hc0 : ∀ c, D.atKey (.int .i64 x.seq) (.lit (.int .i64 0)) = .lit (.int .i64 c) → c = 1 := fun c hat => by rw [seen_at HS.out hk (by rw [HX.out]) hat, q6]; rfl
                      clear HV HP1 HA
                      go_wp2_with (first
                        | (at_lookup; refine wpList_lookup_own_int _ rfl _ _ 66 rfl 2 3 .i64 lawI Try.underlying66 Try.underlying3 (zeroI _) wm.heap.size ((j + 1)) _ rfl own3 _ _ rfl hkey ?_; intro c1 hat1 hwc1; obtain rfl := hc0 c1 hat1)
                        | (at_lookup; refine wpList_lookup_own_int _ rfl _ _ 66 rfl 2 3 .i64 lawI Try.underlying66 Try.underlying3 (zeroI _) wm.heap.size ((j + 1) + 1) _ rfl hown1 _ _ rfl hkey ?_; intro c2 hat2 hwc2; obtain rfl : c2 = 2 := seen_two HS.out.1 hat2)
                        | (at_mapUpdate; refine wpList_mapUpdate_own _ rfl _ _ _ 66 rfl 2 3 lawI Try.underlying66 _ wm.heap.size ((j + 1)) _ rfl own3 hkm _ _ _ rfl rfl hkey (.lit (.int .i64 2)) [] (plainElem_int Try.underlying3 (by decide)) ?_; intro w1 hown1 hgrow1; have z2 := (World.cell?_of_block (w := w3) (hgrow1.block gv hgs (fun e => by cases e; exact Nat.lt_irrefl _ hgv))).trans z1)
                        | go_in)
                      go_ret
                      exact ⟨ret_bool hbad.out.symm, hbw.trans ((bel3.grown hgrow1 (Nat.le_of_succ_le hs3) (fun k h => by cases h; exact Nat.le_refl _)).mono (Nat.le_trans (Nat.le_succ _) hww))⟩
                    | true =>
                      have hgood := Lib.hid (gd_yes (nx := nx) HX.out q3 q1 q2 (.inr (by rw [HY.out]; exact q5)) q6)
                      have hc0 : ∀ c, D.atKey (.int .i64 x.seq) (.lit (.int .i64 0)) = .lit (.int .i64 c) → c = 0 := fun c hat => by rw [seen_at HS.out hk (by rw [HX.out]) hat, q6]; rfl
                      clear HV HP1 HA
                      go_wp2_with (first
                        | (at_lookup; refine wpList_lookup_own_int _ rfl _ _ 66 rfl 2 3 .i64 lawI Try.underlying66 Try.underlying3 (zeroI _) wm.heap.size ((j + 1)) _ rfl own3 _ _ rfl hkey ?_; intro c1 hat1 hwc1; obtain rfl := hc0 c1 hat1)
                        | (at_lookup; refine wpList_lookup_own_int _ rfl _ _ 66 rfl 2 3 .i64 lawI Try.underlying66 Try.underlying3 (zeroI _) wm.heap.size ((j + 1) + 1) _ rfl hown1 _ _ rfl hkey ?_; intro c2 hat2 hwc2; obtain rfl : c2 = 1 := seen_two HS.out.1 hat2)
                        | (at_mapUpdate; refine wpList_mapUpdate_own _ rfl _ _ _ 66 rfl 2 3 lawI Try.underlying66 _ wm.heap.size ((j + 1)) _ rfl own3 hkm _ _ _ rfl rfl hkey (.lit (.int .i64 1)) [] (plainElem_int Try.underlying3 (by decide)) ?_; intro w1 hown1 hgrow1; have z2 := (World.cell?_of_block (w := w3) (hgrow1.block gv hgs (fun e => by cases e; exact Nat.lt_irrefl _ hgv))).trans z1)
                        | go_in)
                      go_roundw
                      case rel => exact ⟨(j + 1) + 1, _, hlt, by go_num, HG.out.succ hgood.out, seen_succ HS.out hlt (by rw [HX.out]), hown1, bel3.grown hgrow1 (Nat.le_of_succ_le hs3) (fun k h => by cases h; exact Nat.le_refl _), Nat.le_trans hs3 hgrow1.size⟩
                      case measure => simp [intOf]; omega
        · have hke : k = l.length := by omega
          subst hke
          have hgood : rightV l nx = true := by simp [rightV, n1, n2, n3, N4.out, HG.out.all]
          have HB := Lib.hid hgood
          clear hgood HCw
          go_wp2
          go_ret
          exact ⟨ret_bool HB.out.symm, hbw.trans (hbr.mono (by omega))⟩
    · have t4 : decide ((65536 : Int) < wrap64 (bsize l)) = true := decide_eq_true (Int.not_le.1 n4)
      have HB := Lib.hid (show rightV l nx = false by simp [rightV, n4])
      clear n4
      go_enter Try.func33, Try.ntmps33
      go_wp2_with (first | (go_at_call 35; refine (HBs _ (below1 _ _)).out.mono ?_; rintro e wm ⟨rfl, hb2⟩; have hbw := box_below hb2))
      go_ret
      exact ⟨ret_bool HB.out.symm, hbw⟩
  · have hbad : rightV l nx = false := by
      rw [Bool.eq_false_iff]
      intro h
      simp only [rightV, Bool.and_eq_true, decide_eq_true_eq] at h
      exact n1 ⟨h.1.1.1.1, h.1.1.1.2, h.1.1.2⟩
    have HB := Lib.hid hbad
    clear hbad
    by_cases m1 : nx < 1
    · have t1 : decide (nx < 1) = true := decide_eq_true m1
      go_enter Try.func33, Try.ntmps33
      go_wp2
      go_ret
      exact ⟨ret_bool HB.out.symm, below1 _ _⟩
    · have t1 : decide (nx < 1) = false := decide_eq_false m1
      by_cases m2 : 1099511627777 < nx
      · have t2 : decide (1099511627777 < nx) = true := decide_eq_true m2
        go_enter Try.func33, Try.ntmps33
        go_wp2
        go_ret
        exact ⟨ret_bool HB.out.symm, below1 _ _⟩
      · have t2 : decide (1099511627777 < nx) = false := decide_eq_false m2
        have t3 : decide ((256 : Int) < (l.length : Int)) = true := decide_eq_true (by omega)
        go_enter Try.func33, Try.ntmps33
        go_wp2
        go_ret
        exact ⟨ret_bool HB.out.symm, below1 _ _⟩
end Go.Proofs.Ytbhdehkdnenigaa

set_option linter.unusedVariables false
set_option linter.unusedSimpArgs false
namespace Go.Proofs.Ytbhdehkdnenigaa
open Go.RowKit Go.Proofs.YtbhdehkdnenigaaW.PrintWords
attribute [local go_sem] Vn.val
set_option maxHeartbeats 400000 in
theorem old_any (x : Vn) (A : Option Addr) (c : Nat) (b : Nat) (s : Int) (w : World) (hb : w.cell? ⟨b, 0, none⟩ = some (.int .i64 s)) :
    Calls Try.prog 32 #[x.val A c, .pointer (some ⟨b, 0, none⟩)] w fun e w' => e = .returned (.bool (decide (x.seq < s))) ∧ Below w.heap.size w w' := by
  have hb2 := pw_cell_below (below1 w (.cells #[.string x.key, .int .i64 x.seq, .bool x.gone, .string x.data, .slice A x.pairs.length c] 48)) hb
  go_enter Try.func32, Try.ntmps32
  go_wp2
  go_ret
  exact ⟨rfl, below1 _ _⟩
def oldF (l : List Vn) (s : Int) : Bool := l.any (fun v => decide (v.seq < s))
theorem old_hit {l : List Vn} {s : Int} {k : Nat} (h : k < l.length) (q : decide ((rdV l k).seq < s) = true) : oldF l s = true := by
  unfold oldF
  rw [List.any_eq_true]
  exact ⟨_, rdV_mem h, q⟩
set_option maxRecDepth 100000 in
set_option maxHeartbeats 1000000 in
theorem idx_any (l : List Vn) (A : Option Addr) (c : Nat) (b : Nat) (s : Int) (w : World) (hb : w.cell? ⟨b, 0, none⟩ = some (.int .i64 s)) (hC : kVn.C w A l.length l) (hl : l.length ≤ c) :
    Calls Try.prog 47 #[.slice A l.length c, .func (.func 32) #[] #[.pointer (some ⟨b, 0, none⟩)]] w fun e w' => ∃ r : Int, e = .returned (.int .i64 r) ∧ decide (0 ≤ r) = oldF l s ∧ Below w.heap.size w w' := by
  have HC := Lib.hid hC
  have hml := hC.2.1
  clear hC
  go_enter Try.func47, Try.ntmps47
  go_wp2
  go_loopw [8] (fun i wr => ∃ k : Nat, k ≤ l.length ∧ i = .int .i64 k ∧ Hid (oldF (l.take k) s = false) ∧ Below w.heap.size w wr) (fun i _ => l.length - (intOf i).toNat)
  case atStart => exact ⟨0, Nat.zero_le _, rfl, by show oldF (l.take 0) s = false; simp [oldF], Below.refl _ _⟩
  case round =>
    obtain ⟨k, hk, rfl, HO, hbw⟩ := hrel
    have HCw := Kd.C_below HC.out hbw
    by_cases hlt : k < l.length
    · obtain ⟨ad, A4, c4, rfl, h1, h2, h3, h4, h5, h6, h7⟩ := kVn_rd HCw k hlt
      have hbb := pw_cell_below hbw hb
      have HT := fun w' h => Lib.hid (old_any (rdV l k) A4 c4 b s w' h)
      have hk1 := List.take_succ_eq_append_getElem hlt
      rw [rdV_at hlt] at hk1
      cases q : decide ((rdV l k).seq < s) with
      | true =>
        have HB := Lib.hid (show oldF l s = true from old_hit hlt q)
        rw [q] at HT
        clear hk1
        go_wp2_with (first | (go_at_call 32; refine (HT _ hbb).out.mono ?_; rintro e w' ⟨rfl, hb2⟩))
        go_ret
        exact ⟨_, rfl, by rw [HB.out]; exact decide_eq_true (by omega), hbw.trans (hb2.mono hbw.size)⟩
      | false =>
        have HN := Lib.hid (show oldF (l.take (k + 1)) s = false by
          rw [hk1]
          have h0 := HO.out
          unfold oldF at h0 ⊢
          rw [List.any_append, h0]
          simpa using q)
        rw [q] at HT
        clear hk1
        go_wp2_with (first | (go_at_call 32; refine (HT _ hbb).out.mono ?_; rintro e w' ⟨rfl, hb2⟩))
        go_roundw
        case rel => exact ⟨k + 1, by omega, by go_num, HN, hbw.trans (hb2.mono hbw.size)⟩
        case measure => simp [intOf]; omega
    · have hke : k = l.length := by omega
      subst hke
      have h0 := HO.out
      rw [List.take_length] at h0
      have HB := Lib.hid h0
      clear h0 HCw
      go_wp2
      go_ret
      exact ⟨-1, rfl, by rw [HB.out]; rfl, hbw⟩
set_option maxHeartbeats 400000 in
theorem has_any (l : List Vn) (A : Option Addr) (c : Nat) (b : Nat) (s : Int) (w : World) (hb : w.cell? ⟨b, 0, none⟩ = some (.int .i64 s)) (hC : kVn.C w A l.length l) (hl : l.length ≤ c) :
    Calls Try.prog 34 #[.slice A l.length c, .func (.func 32) #[] #[.pointer (some ⟨b, 0, none⟩)]] w fun e w' => e = .returned (.bool (oldF l s)) ∧ Below w.heap.size w w' := by
  have HI := Lib.hid (idx_any l A c b s w hb hC hl)
  go_enter Try.func34, Try.ntmps34
  go_wp2_with (first | (go_at_call 47; refine HI.out.mono ?_; rintro e w' ⟨r, rfl, hr, hb2⟩))
  go_ret
  exact ⟨by first | rfl | exact ret_bool hr, hb2⟩
def dRightV (l : List Vn) (nx s : Int) : Bool := decide (1 ≤ s) && decide (s ≤ nx) && rightV l nx && !oldF l s
set_option maxHeartbeats 1000000 in
theorem dRight_any (l : List Vn) (nx s : Int) (A : Option Addr) (c : Nat) (w : World) (hC : kVn.C w A l.length l) (hl : l.length ≤ c) (HF : ∀ x ∈ l, x.Fits) :
    Calls Try.prog 15 #[.agg #[.int .i64 s, .int .i64 nx, .slice A l.length c]] w fun e w' => e = .returned (.bool (dRightV l nx s)) ∧ Below w.heap.size w w' := by
  have hmf : ∀ (fn : Fn) (first cap : Array Value) (w : World), (Instr.makeFunc fn first cap).run Try.prog w = .ok (.func fn first cap) w := fun _ _ _ _ => rfl
  have HR0 := fun w' (h : Below w.heap.size w w') => bRight_any l nx A c w' (Kd.C_below hC h) hl HF
  have HH0 := fun w' (h : Below w.heap.size w w') (hb : w'.cell? ⟨w.heap.size, 0, none⟩ = some (.int .i64 s)) => has_any l A c w.heap.size s w' hb (Kd.C_below hC h) hl
  have hd : dRightV l nx s = (decide (1 ≤ s) && decide (s ≤ nx) && rightV l nx && !oldF l s) := rfl
  have hB0 := below1 w (.cells #[.int .i64 s, .int .i64 nx, .slice A l.length c] 27)
  have hc0 : (w.alloc (.cells #[.int .i64 s, .int .i64 nx, .slice A l.length c] 27)).cell? ⟨w.heap.size, 0, none⟩ = some (.int .i64 s) := box_cell (Below.refl _ _) (i := 0) rfl
  by_cases q1 : 1 ≤ s
  · have t1 : decide (1 ≤ s) = true := decide_eq_true q1
    by_cases q2 : s ≤ nx
    · have t2 : decide (s ≤ nx) = true := decide_eq_true q2
      cases q3 : rightV l nx with
      | true =>
        rw [q3] at HR0
        have HB := Lib.hid (show dRightV l nx s = !oldF l s by rw [hd, t1, t2, q3]; rfl)
        have HR := fun w' h => Lib.hid (HR0 w' h)
        have HH := fun w' h hb => Lib.hid (HH0 w' h hb)
        clear HR0 HH0 hd
        generalize oldF l s = o at *
        go_enter Try.func15, Try.ntmps15
        go_wp2_with (first | (go_at_call 33; refine (HR _ hB0).out.mono ?_; rintro e w1 ⟨rfl, hb1⟩; have hc1 := pw_cell_below hb1 hc0; have hB1 := hB0.trans (hb1.mono hB0.size); have hm0 := box_cell hb1 (i := 0) rfl; have hm1 := box_cell hb1 (i := 1) rfl; have hm2 := box_cell hb1 (i := 2) rfl) | (go_at_call 34; refine (HH _ hB1 hc1).out.mono ?_; rintro e w2 ⟨rfl, hb2⟩))
        go_ret
        exact ⟨ret_bool HB.out.symm, hB1.trans (hb2.mono hB1.size)⟩
      | false =>
        rw [q3] at HR0
        have HB := Lib.hid (show dRightV l nx s = false by rw [hd, q3]; simp)
        have HR := fun w' h => Lib.hid (HR0 w' h)
        clear HR0 HH0 hd
        go_enter Try.func15, Try.ntmps15
        go_wp2_with (first | (go_at_call 33; refine (HR _ hB0).out.mono ?_; rintro e w1 ⟨rfl, hb1⟩; have hB1 := hB0.trans (hb1.mono hB0.size)))
        go_ret
        exact ⟨ret_bool HB.out.symm, hB1⟩
    · have t2 : decide (s ≤ nx) = false := decide_eq_false q2
      have HB := Lib.hid (show dRightV l nx s = false by rw [hd, t2]; simp)
      clear HR0 HH0 hd
      go_enter Try.func15, Try.ntmps15
      go_wp2
      go_ret
      exact ⟨ret_bool HB.out.symm, hB0⟩
  · have t1 : decide (1 ≤ s) = false := decide_eq_false q1
    have HB := Lib.hid (show dRightV l nx s = false by rw [hd, t1]; simp)
    clear HR0 HH0 hd
    go_enter Try.func15, Try.ntmps15
    go_wp2
    go_ret
    exact ⟨ret_bool HB.out.symm, hB0⟩
end Go.Proofs.Ytbhdehkdnenigaa

set_option linter.unusedVariables false
set_option linter.unusedSimpArgs false
namespace Go.Proofs.Ytbhdehkdnenigaa
open Go.RowKit Go.Proofs.YtbhdehkdnenigaaW.PrintWords

theorem va_iff (x y : Vn) : va x y = true ↔ Op.bytesLess x.key.toList y.key.toList = true ∨ (x.key.toList = y.key.toList ∧ x.seq < y.seq) := by
  simp [va]
theorem va_trans {x y z : Vn} (h1 : va x y = true) (h2 : va y z = true) : va x z = true := by
  rw [va_iff] at *
  rcases h1 with h1 | ⟨e1, h1⟩ <;> rcases h2 with h2 | ⟨e2, h2⟩
  · exact .inl (bl_trans h1 h2)
  · exact .inl (by rw [← e2]; exact h1)
  · exact .inl (by rw [e1]; exact h2)
  · exact .inr ⟨e1.trans e2, by omega⟩
theorem ord_va (x y : Vn) : ordE x y < 0 ↔ va x y = true := by
  rw [va_iff]
  unfold ordE cmpS cmpI
  rcases bl_tri x.key.toList y.key.toList with h | h | h
  · simp [h]
  · simp only [h, bl_irr, Bool.false_eq_true, if_false, false_or, true_and]
    by_cases h1 : x.seq < y.seq
    · simp [h1]
    · by_cases h2 : y.seq < x.seq
      · simp [h1, h2]
      · simp [h1, h2]
  · have h1 := bl_asym h
    have hne : x.key.toList ≠ y.key.toList := fun e => by rw [e, bl_irr] at h; cases h
    simp [h, h1, hne]
def Srt (l : List Vn) : Prop := l.Pairwise (fun x y => va x y = true ∧ x.seq ≠ y.seq)
structure Rt (l : List Vn) (nx : Int) : Prop where
  lo : 1 ≤ nx
  hi : nx ≤ 1099511627777
  len : l.length ≤ 256
  all : ∀ x ∈ l, wel x = true ∧ 1 ≤ x.seq ∧ x.seq < nx
  srt : Srt l
  bytes : bsize l ≤ 65536
theorem sum_le {l : List Nat} {b : Nat} (h : ∀ x ∈ l, x ≤ b) : l.sum ≤ l.length * b := by
  induction l with
  | nil => simp
  | cons x r ih =>
    have h1 := h x List.mem_cons_self
    have h2 := ih (fun y hy => h y (List.mem_cons_of_mem _ hy))
    rw [List.sum_cons, List.length_cons, Nat.add_mul]
    omega
theorem mok_all {l : List Pr} (h : mok l = true) : l.length ≤ 8 ∧ ∀ p ∈ l, p.n.size ≤ 16 ∧ p.v.size ≤ 64 := by
  simp only [mok, Bool.and_eq_true, decide_eq_true_eq, List.all_eq_true, List.mem_range] at h
  refine ⟨h.1, fun p hp => ?_⟩
  obtain ⟨i, hi, e⟩ := List.getElem_of_mem hp
  have := h.2 i hi
  rw [rdP_at hi] at e
  simp only [mg, e, sml, Bool.and_eq_true, decide_eq_true_eq] at this
  omega
theorem wel_size {x : Vn} (h : wel x = true) : vsize x ≤ 1728 := by
  simp only [wel, Bool.and_eq_true, beq_iff_eq] at h
  obtain ⟨⟨⟨h1, h2⟩, h3⟩, _⟩ := h
  have k1 : x.key.size ≤ 32 := by unfold keyE at h1; split at h1 <;> omega
  have k2 : x.data.size ≤ 1024 := by unfold dataE at h2; split at h2 <;> omega
  have k3 : mok x.pairs = true := by unfold metaE at h3; split at h3 <;> first | assumption | omega
  obtain ⟨k4, k5⟩ := mok_all k3
  have k6 : psizes x.pairs ≤ x.pairs.length * 80 := by
    unfold psizes
    have := sum_le (l := x.pairs.map psize) (b := 80) (fun y hy => by
      obtain ⟨p, hp, rfl⟩ := List.mem_map.1 hy
      have := k5 p hp
      unfold psize
      omega)
    rwa [List.length_map] at this
  unfold vsize
  have : x.pairs.length * 80 ≤ 640 := by omega
  omega
theorem bsize_small {l : List Vn} (h : ∀ x ∈ l, wel x = true) (hl : l.length ≤ 256) : bsize l ≤ 442368 := by
  have := sum_le (l := l.map vsize) (b := 1728) (fun y hy => by
    obtain ⟨x, hx, rfl⟩ := List.mem_map.1 hy
    exact wel_size (h x hx))
  rw [List.length_map] at this
  unfold bsize
  omega
theorem gd_iff (l : List Vn) (nx : Int) (i : Nat) : gd l nx i = true ↔ wel (rdV l i) = true ∧ 1 ≤ (rdV l i).seq ∧ (rdV l i).seq < nx ∧ (i = 0 ∨ va (rdV l (i - 1)) (rdV l i) = true) ∧ ∀ j, j < i → (rdV l j).seq ≠ (rdV l i).seq := by
  simp only [gd, apartTo, Bool.and_eq_true, Bool.or_eq_true, decide_eq_true_eq, beq_iff_eq, bne_iff_ne, List.all_eq_true, List.mem_range, and_assoc]
theorem right_iff (l : List Vn) (nx : Int) : rightV l nx = true ↔ Rt l nx := by
  have hgds : gds l nx = true ↔ ∀ i, i < l.length → gd l nx i = true := by
    simp only [gds, List.all_eq_true, List.mem_range]
  constructor
  · intro h
    simp only [rightV, Bool.and_eq_true, decide_eq_true_eq] at h
    obtain ⟨⟨⟨⟨h1, h2⟩, h3⟩, h4⟩, h5⟩ := h
    have hg := fun i hi => (gd_iff l nx i).1 (hgds.1 h4 i hi)
    have hall : ∀ x ∈ l, wel x = true ∧ 1 ≤ x.seq ∧ x.seq < nx := fun x hx => by
      obtain ⟨i, hi, e⟩ := List.getElem_of_mem hx
      rw [rdV_at hi] at e
      have := hg i hi
      rw [e] at this
      exact ⟨this.1, this.2.1, this.2.2.1⟩
    have hb := bsize_small (fun x hx => (hall x hx).1) h3
    rw [w64_nat (by omega)] at h5
    have hva : ∀ d i, i + d + 1 < l.length → va (rdV l i) (rdV l (i + d + 1)) = true := by
      intro d
      induction d with
      | zero =>
        intro i hi
        have := (hg (i + 1) (by omega)).2.2.2.1
        simpa using this
      | succ d ih =>
        intro i hi
        have h1 := ih i (by omega)
        have h2 := (hg (i + d + 1 + 1) (by omega)).2.2.2.1
        have h2' : va (rdV l (i + d + 1)) (rdV l (i + d + 1 + 1)) = true := by simpa using h2
        exact va_trans h1 h2'
    refine ⟨h1, h2, h3, hall, ?_, by omega⟩
    unfold Srt
    rw [List.pairwise_iff_getElem]
    intro i j hi hj hij
    rw [rdV_at hi, rdV_at hj]
    obtain ⟨d, rfl⟩ : ∃ d, j = i + d + 1 := ⟨j - i - 1, by omega⟩
    exact ⟨hva d i hj, (hg _ hj).2.2.2.2 i (by omega)⟩
  · intro h
    have hs := h.srt
    unfold Srt at hs
    rw [List.pairwise_iff_getElem] at hs
    have hg : gds l nx = true := hgds.2 (fun i hi => by
      rw [gd_iff]
      have hm := h.all _ (rdV_mem hi)
      refine ⟨hm.1, hm.2.1, hm.2.2, ?_, fun j hj => ?_⟩
      · by_cases h0 : i = 0
        · exact .inl h0
        · have := (hs (i - 1) i (by omega) hi (by omega)).1
          rw [rdV_at, rdV_at] at this
          exact .inr this
      · have := (hs j i (by omega) hi hj).2
        rwa [rdV_at, rdV_at] at this)
    have hb := h.bytes
    simp only [rightV, hg, w64_nat (show bsize l ≤ 9223372036854775807 by omega), Bool.and_eq_true, decide_eq_true_eq]
    exact ⟨⟨⟨⟨h.lo, h.hi⟩, h.len⟩, trivial⟩, by omega⟩
theorem bsize_filter (l : List Vn) (p : Vn → Bool) : bsize (l.filter p) ≤ bsize l := by
  induction l with
  | nil => simp
  | cons x r ih =>
    unfold bsize at *
    rw [List.filter_cons]
    split <;> simp only [List.map_cons, List.sum_cons] <;> omega
theorem Rt.filter {l : List Vn} {nx nx' : Int} (h : Rt l nx) (p : Vn → Bool) (h1 : 1 ≤ nx') (h2 : nx' ≤ 1099511627777) (hp : ∀ x ∈ l, p x = true → x.seq < nx') : Rt (l.filter p) nx' :=
  ⟨h1, h2, Nat.le_trans (List.length_filter_le _ _) h.len, fun x hx => by
    obtain ⟨hx, hpx⟩ := List.mem_filter.1 hx
    have := h.all x hx
    exact ⟨this.1, this.2.1, hp x hx hpx⟩, h.srt.filter p, Nat.le_trans (bsize_filter l p) h.bytes⟩
theorem since_all {l : List Vn} (h : ∀ x ∈ l, 1 ≤ x.seq) : since l (-9223372036854775808) = l := by
  unfold since
  rw [List.filter_eq_self]
  intro x hx
  have := h x hx
  exact decide_eq_true (by omega)
theorem Rt.lower {l : List Vn} {nx m : Int} (h : Rt l nx) (h1 : 1 ≤ m) (h2 : m ≤ nx) : Rt (lower l m) m :=
  h.filter _ h1 (by have := h.hi; omega) (fun x _ hp => of_decide_eq_true hp)
theorem Rt.since {l : List Vn} {nx m : Int} (h : Rt l nx) : Rt (since l m) nx :=
  h.filter _ h.lo h.hi (fun x hx _ => (h.all x hx).2.2)
end Go.Proofs.Ytbhdehkdnenigaa

set_option linter.unusedVariables false
set_option linter.unusedSimpArgs false
namespace Go.Proofs.Ytbhdehkdnenigaa
open Go.RowKit Go.Proofs.YtbhdehkdnenigaaW.PrintWords Go.Proofs.YtbhdehkdnenigaaW.PrintLast
attribute [local go_sem] Vn.val

def aP.T5 : Bool × List (List Nat × List Nat) := (true, [([], []), ([0], [0]), ([], []), ([2], [2]), ([3, 1], [3]), ([1, 4], [1, 4]), ([5], [5]), ([6, 4], [6])])
def aP.B5 : List Nat := [0, 1, 0, 4, 15, 31, 63, 127]
theorem aP.tab5 : rtab .any (opsOf Try.f16 5) = aP.T5 := by kernel_rfl
theorem aP.bits5 : waitsOk aP.T5.2 aP.B5 = true := by kernel_rfl
def aP.T7 : Bool × List (List Nat × List Nat) := (true, [([], []), ([0], [0]), ([1], [1]), ([], []), ([3], [3]), ([4], [4]), ([5, 2], [5]), ([2, 6, 6], [2, 6]), ([7, 7, 0, 1, 2, 3, 4, 5, 6, 7], [7])])
def aP.B7 : List Nat := [0, 1, 3, 0, 8, 24, 63, 127, 255]
theorem aP.tab7 : rtab .any (opsOf Try.f16 7) = aP.T7 := by kernel_rfl
theorem aP.bits7 : waitsOk aP.T7.2 aP.B7 = true := by kernel_rfl
theorem made_slice {w : World} {b0 n c : Nat} {A : Option Addr} {ok : Nat → Prop} {xs : List Vn} (h : kVn.R 48 w b0 ok (.slice A n c) xs) : xs.length ≤ c ∧ Made w b0 w.heap.size A xs := by
  obtain ⟨A', c', e, h1, h2⟩ := made_of h
  cases e
  exact ⟨h1, h2⟩
def noBucket : Value := .agg #[.int .i64 0, .slice none 0 0]
abbrev all64 : Int := -9223372036854775808
def three (w : World) (nx s nx2 : Int) (A B : Option Addr) (n k c d : Nat) : World := ((w.alloc (.cells #[.int .i64 nx, .slice A n c] 24)).alloc (.cells #[.int .i64 s, .int .i64 nx2, .slice B k d] 27)).alloc (.cells #[.int .i64 0, .slice none 0 0] 24)
theorem below3 (w : World) (o p q : Obj) : Below w.heap.size w (((w.alloc o).alloc p).alloc q) := (below2 w o p).alloc (by simp [go_sem]; omega) _
set_option maxRecDepth 100000 in
set_option maxHeartbeats 4000000 in
theorem apply_any (l m : List Vn) (nx s nx2 : Int) (A B : Option Addr) (c d : Nat) (w : World) (hC : kVn.C w A l.length l) (hl : l.length ≤ c) (HR : Room l) (hD : kVn.C w B m.length m) (hm : m.length ≤ d) (HQ : Room m) (h1 : s = nx) (h2 : l.length + m.length ≤ 256) (h3 : wrap64 (wrap64 (bsize l) + wrap64 (bsize m)) ≤ 65536) :
    Calls Try.prog 16 #[.agg #[.int .i64 nx, .slice A l.length c], .agg #[.int .i64 s, .int .i64 nx2, .slice B m.length d]] w fun e w' => ∃ v, e = .returned (.tuple #[.agg #[.int .i64 nx2, v], .int .i64 0]) ∧ kVn.R 48 w' w.heap.size (fun _ => True) v (mrg (since l all64) (since m all64)) ∧ Below w.heap.size w w' := by
  have t1 : (s == nx) = true := by simpa using h1
  have t2 : (s != nx) = false := by simpa using h1
  have t3 : decide ((256 : Int) < (l.length : Int) + (m.length : Int)) = false := decide_eq_false (by omega)
  have t4 : decide ((65536 : Int) < wrap64 (wrap64 (bsize l) + wrap64 (bsize m))) = false := decide_eq_false (Int.not_lt.2 h3)
  have HY1 := fun w' (h : Below w.heap.size w w') => Lib.hid (bytes_any l nx A c w' (Kd.C_below hC h) hl HR.fits)
  have HY2 := fun w' (h : Below w.heap.size w w') => Lib.hid (bytes_any m nx2 B d w' (Kd.C_below hD h) hm HQ.fits)
  have HA1 := fun w' (h : Below w.heap.size w w') => Lib.hid (added_any l (-9223372036854775808) A c w' (Kd.C_below hC h) hl HR)
  have HA2 := fun w' (h : Below w.heap.size w w') => Lib.hid (added_any m (-9223372036854775808) B d w' (Kd.C_below hD h) hm HQ)
  clear hC hD h3
  go_enter Try.func16, Try.ntmps16
  subst h1
  go_upto_region 5 with fail
  have hwW := below3 w (.cells #[.int .i64 s, .slice A l.length c] 24) (.cells #[.int .i64 s, .int .i64 nx2, .slice B m.length d] 27) (.cells #[.int .i64 0, .slice none 0 0] 24)
  have b0 : (three w s s nx2 A B l.length m.length c d).cell? ⟨w.heap.size, 0, none⟩ = some (.int .i64 s) := by simp [three, go_sem]
  have b1 : (three w s s nx2 A B l.length m.length c d).cell? ⟨w.heap.size, 1, none⟩ = some (.slice A l.length c) := by simp [three, go_sem]
  have d1 : (three w s s nx2 A B l.length m.length c d).cell? ⟨w.heap.size + 1, 1, none⟩ = some (.int .i64 nx2) := by simp [three, go_sem]
  have d2 : (three w s s nx2 A B l.length m.length c d).cell? ⟨w.heap.size + 1, 2, none⟩ = some (.slice B m.length d) := by simp [three, go_sem]
  have r0 : (three w s s nx2 A B l.length m.length c d).cell? ⟨w.heap.size + 1 + 1, 0, none⟩ = some (.int .i64 0) := by simp [three, go_sem]
  have r1 : (three w s s nx2 A B l.length m.length c d).cell? ⟨w.heap.size + 1 + 1, 1, none⟩ = some (.slice none 0 0) := by simp [three, go_sem]
  have rf : ∀ j, (three w s s nx2 A B l.length m.length c d).frozen? ⟨w.heap.size + 1 + 1, j, none⟩ = false := fun j => by simp [three, go_sem]
  have hsz : w.heap.size + 3 ≤ (three w s s nx2 A B l.length m.length c d).heap.size := by simp [three, go_sem]
  unfold three at b0 b1 d1 d2 r0 r1 rf hsz
  generalize hnx : s = nx at *
  generalize (((w.alloc (.cells #[.int .i64 nx, .slice A l.length c] 24)).alloc (.cells #[.int .i64 nx, .int .i64 nx2, .slice B m.length d] 27)).alloc (.cells #[.int .i64 0, .slice none 0 0] 24)) = W at *
  refine start_ (n := 8) (S := fun w' => w'.cell? ⟨w.heap.size, 0, none⟩ = some (.int .i64 nx) ∧ w'.cell? ⟨w.heap.size, 1, none⟩ = some (.slice A l.length c) ∧ w'.cell? ⟨w.heap.size + 1, 1, none⟩ = some (.int .i64 nx2) ∧ w'.cell? ⟨w.heap.size + 1, 2, none⟩ = some (.slice B m.length d)) (ds := []) #[false, false, false, false, false, false, false, false] (by kernel_rfl) rfl rfl ⟨b0, b1, d1, d2⟩ (fun hHeld => ?_)
  refine with_tabW aP.tab5 aP.bits5 (fun HT_ HW_ => ?_)
  refine pure_ (i := 2) (N := some 28) (v := ?_) (a' := ?_) #[false, false, true, false, false, false, false, false] rfl rfl (any_of HT_.out (by kernel_rfl)) (fun _ _ _ h => h) (Or.inl ⟨by rfl, ?_⟩) ?_ ?_
  rotate_left
  · intro w'
    go_simp
    with_reducible rfl
  rotate_left
  · simp only [Act.put, List.setIfInBounds_toArray, List.set_cons_zero, List.set_cons_succ, i64_w, i32_w]
    rfl
  refine take_ (i := 0) (N := some 26) (v := ?_) (a' := ?_) #[true, false, true, false, false, false, false, false] rfl rfl (take_ofW HT_.out HW_.out (by kernel_rfl)) (fun _ _ _ h => h) (Or.inl ⟨by rfl, ?_⟩) hHeld ?_ ?_
  rotate_left
  · rintro w' ⟨s0, s1, s2, s3⟩
    go_simp
    with_reducible rfl
  rotate_left
  · simp only [Act.put, List.setIfInBounds_toArray, List.set_cons_zero, List.set_cons_succ, i64_w, i32_w]
    rfl
  refine take_ (i := 3) (N := some 29) (v := ?_) (a' := ?_) #[true, false, true, true, false, false, false, false] rfl rfl (take_ofW HT_.out HW_.out (by kernel_rfl)) (fun _ _ _ h => h) (Or.inl ⟨by rfl, ?_⟩) hHeld ?_ ?_
  rotate_left
  · rintro w' ⟨s0, s1, s2, s3⟩
    go_simp
    with_reducible rfl
  rotate_left
  · simp only [Act.put, List.setIfInBounds_toArray, List.set_cons_zero, List.set_cons_succ, i64_w, i32_w]
    rfl
  refine one_ (i := 1) (N := some 27) #[true, true, true, true, false, false, false, false] rfl rfl (one_of HT_.out (by kernel_rfl)) (by decide) (fun K hK => ?_)
  refine goes_ Try.func35 (by kernel_rfl) rfl #[.agg #[.int .i64 nx, .slice A l.length c]] (by rfl) rfl rfl (by simp only [List.map_toArray, List.map_cons, List.map_nil]; rfl) ?_
  with_reducible refine ((HY1 _ hwW.drew).out).mono ?_
  rintro e w3 ⟨rfl, hb⟩
  refine ⟨_, rfl, ?_⟩
  have hb3 := hb
  have hw3 : Below w.heap.size w w3 := hwW.drew.trans (hb.mono hwW.drew.size)
  refine hK.out _ _ ⟨pw_cell_below hb (hHeld.1), pw_cell_below hb (hHeld.2.1), pw_cell_below hb (hHeld.2.2.1), pw_cell_below hb (hHeld.2.2.2)⟩ (fun hHeld => ?_)
  clear hK K
  refine norm_ (a' := ?_) ?_ ?_
  rotate_left
  · show Act.put _ (some 27) _ = _
    simp only [Act.put, List.setIfInBounds_toArray, List.set_cons_zero, List.set_cons_succ, i64_w, i32_w]
    rfl
  refine one_ (i := 4) (N := some 30) #[true, true, true, true, true, false, false, false] rfl rfl (one_of HT_.out (by kernel_rfl)) (by decide) (fun K hK => ?_)
  refine goes_ Try.func35 (by kernel_rfl) rfl #[.agg #[.int .i64 nx2, .slice B m.length d]] (by rfl) rfl rfl (by simp only [List.map_toArray, List.map_cons, List.map_nil]; rfl) ?_
  with_reducible refine ((HY2 _ hw3).out).mono ?_
  rintro e w4 ⟨rfl, hb⟩
  refine ⟨_, rfl, ?_⟩
  have hb4 := hb
  have hw4 : Below w.heap.size w w4 := hw3.trans (hb.mono hw3.size)
  have hW4 : Below W.heap.size W w4 := ((Below.refl _ _).drew.trans hb3).trans (hb.mono hb3.size)
  clear hb
  refine hK.out _ _ ⟨pw_cell_below hb4 (hHeld.1), pw_cell_below hb4 (hHeld.2.1), pw_cell_below hb4 (hHeld.2.2.1), pw_cell_below hb4 (hHeld.2.2.2)⟩ (fun hHeld => ?_)
  clear hK K
  refine norm_ (a' := ?_) ?_ ?_
  rotate_left
  · show Act.put _ (some 30) _ = _
    simp only [Act.put, List.setIfInBounds_toArray, List.set_cons_zero, List.set_cons_succ, i64_w, i32_w]
    rfl
  refine pure_ (i := 5) (N := some 31) (v := ?_) (a' := ?_) #[true, true, true, true, true, true, false, false] rfl rfl (any_of HT_.out (by kernel_rfl)) (fun _ _ _ h => h) (Or.inl ⟨by rfl, ?_⟩) ?_ ?_
  rotate_left
  · intro w'
    go_simp
    with_reducible rfl
  rotate_left
  · simp only [Act.put, List.setIfInBounds_toArray, List.set_cons_zero, List.set_cons_succ, i64_w, i32_w]
    rfl
  refine pure_ (i := 6) (N := some 32) (v := ?_) (a' := ?_) #[true, true, true, true, true, true, true, false] rfl rfl (any_of HT_.out (by kernel_rfl)) (fun _ _ _ h => h) (Or.inl ⟨by rfl, ?_⟩) ?_ ?_
  rotate_left
  · intro w'
    go_simp
    with_reducible rfl
  rotate_left
  · simp only [Act.put, List.setIfInBounds_toArray, List.set_cons_zero, List.set_cons_succ, i64_w, i32_w]
    rfl
  refine pure_ (i := 7) (N := some 25) (v := ?_) (a' := ?_) #[true, true, true, true, true, true, true, true] rfl rfl (any_of HT_.out (by kernel_rfl)) (fun _ _ _ h => h) (Or.inl ⟨by rfl, ?_⟩) ?_ ?_
  rotate_left
  · intro w'
    go_simp
    with_reducible rfl
  rotate_left
  · simp only [Act.put, List.setIfInBounds_toArray, List.set_cons_zero, List.set_cons_succ, i64_w, i32_w]
    rfl
  refine done_ (done_of HT_.out (by kernel_rfl)) ?_
  have hHeld4 := hHeld
  clear hHeld
  go_upto_region 7 with fail
  refine start_ (n := 9) (S := fun w' => w'.cell? ⟨w.heap.size, 0, none⟩ = some (.int .i64 nx) ∧ w'.cell? ⟨w.heap.size, 1, none⟩ = some (.slice A l.length c) ∧ w'.cell? ⟨w.heap.size + 1, 1, none⟩ = some (.int .i64 nx2) ∧ w'.cell? ⟨w.heap.size + 1, 2, none⟩ = some (.slice B m.length d)) (ds := []) #[false, false, false, false, false, false, false, false, false] (by kernel_rfl) rfl rfl ⟨hHeld4.1, hHeld4.2.1, hHeld4.2.2.1, hHeld4.2.2.2⟩ (fun hHeld => ?_)
  refine with_tabW aP.tab7 aP.bits7 (fun HT_ HW_ => ?_)
  refine pure_ (i := 0) (N := some 34) (v := ?_) (a' := ?_) #[true, false, false, false, false, false, false, false, false] rfl rfl (any_of HT_.out (by kernel_rfl)) (fun _ _ _ h => h) (Or.inl ⟨by rfl, ?_⟩) ?_ ?_
  rotate_left
  · intro w'
    go_simp
    with_reducible rfl
  rotate_left
  · simp only [Act.put, List.setIfInBounds_toArray, List.set_cons_zero, List.set_cons_succ, i64_w, i32_w]
    rfl
  refine pure_ (i := 3) (N := some 37) (v := ?_) (a' := ?_) #[true, false, false, true, false, false, false, false, false] rfl rfl (any_of HT_.out (by kernel_rfl)) (fun _ _ _ h => h) (Or.inl ⟨by rfl, ?_⟩) ?_ ?_
  rotate_left
  · intro w'
    go_simp
    with_reducible rfl
  rotate_left
  · simp only [Act.put, List.setIfInBounds_toArray, List.set_cons_zero, List.set_cons_succ, i64_w, i32_w]
    rfl
  refine pure_ (i := 4) (N := some 38) (v := ?_) (a' := ?_) #[true, false, false, true, true, false, false, false, false] rfl rfl (any_of HT_.out (by kernel_rfl)) (fun _ _ _ h => h) (Or.inl ⟨by rfl, ?_⟩) ?_ ?_
  rotate_left
  · intro w'
    go_simp
    with_reducible rfl
  rotate_left
  · simp only [Act.put, List.setIfInBounds_toArray, List.set_cons_zero, List.set_cons_succ, i64_w, i32_w]
    rfl
  refine take_ (i := 1) (N := some 35) (v := ?_) (a' := ?_) #[true, true, false, true, true, false, false, false, false] rfl rfl (take_ofW HT_.out HW_.out (by kernel_rfl)) (fun _ _ _ h => h) (Or.inl ⟨by rfl, ?_⟩) hHeld ?_ ?_
  rotate_left
  · rintro w' ⟨s0, s1, s2, s3⟩
    go_simp
    with_reducible rfl
  rotate_left
  · simp only [Act.put, List.setIfInBounds_toArray, List.set_cons_zero, List.set_cons_succ, i64_w, i32_w]
    rfl
  refine take_ (i := 5) (N := some 39) (v := ?_) (a' := ?_) #[true, true, false, true, true, true, false, false, false] rfl rfl (take_ofW HT_.out HW_.out (by kernel_rfl)) (fun _ _ _ h => h) (Or.inl ⟨by rfl, ?_⟩) hHeld ?_ ?_
  rotate_left
  · rintro w' ⟨s0, s1, s2, s3⟩
    go_simp
    with_reducible rfl
  rotate_left
  · simp only [Act.put, List.setIfInBounds_toArray, List.set_cons_zero, List.set_cons_succ, i64_w, i32_w]
    rfl
  refine one_ (i := 2) (N := some 36) #[true, true, true, true, true, true, false, false, false] rfl rfl (one_of HT_.out (by kernel_rfl)) (by decide) (fun K hK => ?_)
  refine goes_ Try.func28 (by kernel_rfl) rfl #[.slice none 0 0, .slice A l.length c, .int .i64 (-9223372036854775808)] (by rfl) rfl rfl (by simp only [List.map_toArray, List.map_cons, List.map_nil]; rfl) ?_
  with_reducible refine ((HA1 _ hw4.drew).out).mono ?_
  rintro e w5 ⟨v5, rfl, hv, hb⟩
  refine ⟨_, rfl, ?_⟩
  have hb5 := hb
  have hw5 : Below w.heap.size w w5 := hw4.drew.trans (hb.mono hw4.drew.size)
  obtain ⟨A5, c5, rfl⟩ := Kd.R_slice hv
  have HV5 := Lib.hid hv
  clear hv
  refine hK.out _ _ ⟨pw_cell_below hb (hHeld.1), pw_cell_below hb (hHeld.2.1), pw_cell_below hb (hHeld.2.2.1), pw_cell_below hb (hHeld.2.2.2)⟩ (fun hHeld => ?_)
  clear hK K
  refine norm_ (a' := ?_) ?_ ?_
  rotate_left
  · show Act.put _ (some 36) _ = _
    simp only [Act.put, List.setIfInBounds_toArray, List.set_cons_zero, List.set_cons_succ, i64_w, i32_w]
    rfl
  refine one_ (i := 6) (N := some 40) #[true, true, true, true, true, true, true, false, false] rfl rfl (one_of HT_.out (by kernel_rfl)) (by decide) (fun K hK => ?_)
  refine goes_ Try.func28 (by kernel_rfl) rfl #[.slice none 0 0, .slice B m.length d, .int .i64 (-9223372036854775808)] (by rfl) rfl rfl (by simp only [List.map_toArray, List.map_cons, List.map_nil]; rfl) ?_
  with_reducible refine ((HA2 _ hw5).out).mono ?_
  rintro e w6 ⟨v6, rfl, hv, hb⟩
  refine ⟨_, rfl, ?_⟩
  have hb6 := hb
  have hw6 : Below w.heap.size w w6 := hw5.trans (hb.mono hw5.size)
  obtain ⟨A6, c6, rfl⟩ := Kd.R_slice hv
  have HV6 := Lib.hid hv
  clear hv
  refine hK.out _ _ ⟨pw_cell_below hb (hHeld.1), pw_cell_below hb (hHeld.2.1), pw_cell_below hb (hHeld.2.2.1), pw_cell_below hb (hHeld.2.2.2)⟩ (fun hHeld => ?_)
  clear hK K
  refine norm_ (a' := ?_) ?_ ?_
  rotate_left
  · show Act.put _ (some 40) _ = _
    simp only [Act.put, List.setIfInBounds_toArray, List.set_cons_zero, List.set_cons_succ, i64_w, i32_w]
    rfl
  refine one_ (i := 7) (N := some 41) #[true, true, true, true, true, true, true, true, false] rfl rfl (one_of HT_.out (by kernel_rfl)) (by decide) (fun K hK => ?_)
  have hN : W.heap.size ≤ w4.drew.heap.size := hW4.size
  have R5 : kVn.R 48 w6 W.heap.size (fun _ => True) (.slice A5 (since l (-9223372036854775808)).length c5) (since l (-9223372036854775808)) := Kd.R_below (Kd.R_lower HV5.out hN) hb6
  have R6 : kVn.R 48 w6 W.heap.size (fun _ => True) (.slice A6 (since m (-9223372036854775808)).length c6) (since m (-9223372036854775808)) := Kd.R_lower HV6.out (Nat.le_trans hN hb5.size)
  obtain ⟨p1, M1⟩ := made_slice R5
  obtain ⟨p2, M2⟩ := made_slice R6
  have HM := Lib.hid (merged_any _ _ A5 A6 c5 c6 W.heap.size w6 (Nat.le_trans (Nat.le_trans hN hb5.size) hb6.size) M1 M2 p1 p2 (by have := since_len l (-9223372036854775808); have := since_len m (-9223372036854775808); omega))
  clear R5 R6 M1 M2
  refine goes_ Try.func36 (by kernel_rfl) rfl #[.slice A5 (since l (-9223372036854775808)).length c5, .slice A6 (since m (-9223372036854775808)).length c6, .func (.func 37) #[] #[]] (by rfl) rfl rfl (by simp only [List.map_toArray, List.map_cons, List.map_nil]; rfl) ?_
  with_reducible refine (HM.out).mono ?_
  rintro e w7 ⟨v7, rfl, hv, ho, hb⟩
  refine ⟨_, rfl, ?_⟩
  have hb7 := hb
  have hw7 : Below w.heap.size w w7 := hw6.trans (hb.mono hw6.size)
  obtain ⟨A7, c7, rfl⟩ := Kd.R_slice hv
  have HV7 := Lib.hid hv
  clear hv ho
  refine hK.out _ _ ⟨pw_cell_below hb (hHeld.1), pw_cell_below hb (hHeld.2.1), pw_cell_below hb (hHeld.2.2.1), pw_cell_below hb (hHeld.2.2.2)⟩ (fun hHeld => ?_)
  clear hK K
  refine norm_ (a' := ?_) ?_ ?_
  rotate_left
  · show Act.put _ (some 41) _ = _
    simp only [Act.put, List.setIfInBounds_toArray, List.set_cons_zero, List.set_cons_succ, i64_w, i32_w]
    rfl
  refine pure_ (i := 8) (N := some 6) (v := ?_) (a' := ?_) #[true, true, true, true, true, true, true, true, true] rfl rfl (any_of HT_.out (by kernel_rfl)) (fun _ _ _ h => h) (Or.inl ⟨by rfl, ?_⟩) ?_ ?_
  rotate_left
  · intro w'
    go_simp
    with_reducible rfl
  rotate_left
  · simp only [Act.put, List.setIfInBounds_toArray, List.set_cons_zero, List.set_cons_succ, i64_w, i32_w]
    rfl
  refine done_ (done_of HT_.out (by kernel_rfl)) ?_
  have hW7 : Below W.heap.size W w7 := hW4.drew.trans ((hb5.trans ((hb6.trans (hb7.mono hb6.size)).mono hb5.size)).mono hW4.drew.size)
  have r07 := pw_cell_below hW7 r0
  have r17 := pw_cell_below hW7 r1
  have rf7 : ∀ j, w7.frozen? ⟨w.heap.size + 1 + 1, j, none⟩ = false := fun j => frozen_below hW7 (show w.heap.size + 1 + 1 < W.heap.size by omega) (rf j)
  have z1 := hHeld.2.2.1
  go_wp2
  have hR2 : kVn.R 48 w7 W.heap.size (fun k => W.heap.size ≤ k) (.slice A7 (mrg (since l all64) (since m all64)).length c7) (mrg (since l all64) (since m all64)) := Kd.R_mono (Kd.R_bound HV7.out) (fun k hk => hk.2.1)
  refine bodyPost_ret (v := .tuple #[.agg #[.int .i64 nx2, .slice A7 (mrg (since l all64) (since m all64)).length c7], .int .i64 0]) (by simp [results, Try.results16, go_sem, r07, r17]) rfl ?_
  refine ⟨_, rfl, ?_, ?_⟩
  · refine Kd.R_lower (Kd.R_mono (Kd.R_far (Kd.R_far hR2 ?_ _) ?_ _) (fun _ _ => trivial)) (by omega)
    all_goals (intro k hk; show k ≠ _; simp only; omega)
  · exact (hw7.setCell (by simp; omega) _).setCell (by simp; omega) _
set_option maxRecDepth 100000 in
set_option maxHeartbeats 4000000 in
/-- refused for its bytes -/
theorem apply_bytes (l m : List Vn) (nx s nx2 : Int) (A B : Option Addr) (c d : Nat) (w : World) (hC : kVn.C w A l.length l) (hl : l.length ≤ c) (HR : Room l) (hD : kVn.C w B m.length m) (hm : m.length ≤ d) (HQ : Room m) (h1 : s = nx) (h2 : l.length + m.length ≤ 256) (h3 : ¬ wrap64 (wrap64 (bsize l) + wrap64 (bsize m)) ≤ 65536) :
    Calls Try.prog 16 #[.agg #[.int .i64 nx, .slice A l.length c], .agg #[.int .i64 s, .int .i64 nx2, .slice B m.length d]] w fun e w' => e = .returned (.tuple #[noBucket, .int .i64 76]) ∧ Below w.heap.size w w' := by
  have t1 : (s == nx) = true := by simpa using h1
  have t2 : (s != nx) = false := by simpa using h1
  have t3 : decide ((256 : Int) < (l.length : Int) + (m.length : Int)) = false := decide_eq_false (by omega)
  have t4 : decide ((65536 : Int) < wrap64 (wrap64 (bsize l) + wrap64 (bsize m))) = true := decide_eq_true (Int.not_le.1 h3)
  have HY1 := fun w' (h : Below w.heap.size w w') => Lib.hid (bytes_any l nx A c w' (Kd.C_below hC h) hl HR.fits)
  have HY2 := fun w' (h : Below w.heap.size w w') => Lib.hid (bytes_any m nx2 B d w' (Kd.C_below hD h) hm HQ.fits)
  clear hC hD h3
  go_enter Try.func16, Try.ntmps16
  subst h1
  go_upto_region 5 with fail
  have hwW := below3 w (.cells #[.int .i64 s, .slice A l.length c] 24) (.cells #[.int .i64 s, .int .i64 nx2, .slice B m.length d] 27) (.cells #[.int .i64 0, .slice none 0 0] 24)
  have b0 : (three w s s nx2 A B l.length m.length c d).cell? ⟨w.heap.size, 0, none⟩ = some (.int .i64 s) := by simp [three, go_sem]
  have b1 : (three w s s nx2 A B l.length m.length c d).cell? ⟨w.heap.size, 1, none⟩ = some (.slice A l.length c) := by simp [three, go_sem]
  have d1 : (three w s s nx2 A B l.length m.length c d).cell? ⟨w.heap.size + 1, 1, none⟩ = some (.int .i64 nx2) := by simp [three, go_sem]
  have d2 : (three w s s nx2 A B l.length m.length c d).cell? ⟨w.heap.size + 1, 2, none⟩ = some (.slice B m.length d) := by simp [three, go_sem]
  have r0 : (three w s s nx2 A B l.length m.length c d).cell? ⟨w.heap.size + 1 + 1, 0, none⟩ = some (.int .i64 0) := by simp [three, go_sem]
  have r1 : (three w s s nx2 A B l.length m.length c d).cell? ⟨w.heap.size + 1 + 1, 1, none⟩ = some (.slice none 0 0) := by simp [three, go_sem]
  have rf : ∀ j, (three w s s nx2 A B l.length m.length c d).frozen? ⟨w.heap.size + 1 + 1, j, none⟩ = false := fun j => by simp [three, go_sem]
  have hsz : w.heap.size + 3 ≤ (three w s s nx2 A B l.length m.length c d).heap.size := by simp [three, go_sem]
  unfold three at b0 b1 d1 d2 r0 r1 rf hsz
  generalize hnx : s = nx at *
  generalize (((w.alloc (.cells #[.int .i64 nx, .slice A l.length c] 24)).alloc (.cells #[.int .i64 nx, .int .i64 nx2, .slice B m.length d] 27)).alloc (.cells #[.int .i64 0, .slice none 0 0] 24)) = W at *
  refine start_ (n := 8) (S := fun w' => w'.cell? ⟨w.heap.size, 0, none⟩ = some (.int .i64 nx) ∧ w'.cell? ⟨w.heap.size, 1, none⟩ = some (.slice A l.length c) ∧ w'.cell? ⟨w.heap.size + 1, 1, none⟩ = some (.int .i64 nx2) ∧ w'.cell? ⟨w.heap.size + 1, 2, none⟩ = some (.slice B m.length d)) (ds := []) #[false, false, false, false, false, false, false, false] (by kernel_rfl) rfl rfl ⟨b0, b1, d1, d2⟩ (fun hHeld => ?_)
  refine with_tabW aP.tab5 aP.bits5 (fun HT_ HW_ => ?_)
  refine pure_ (i := 2) (N := some 28) (v := ?_) (a' := ?_) #[false, false, true, false, false, false, false, false] rfl rfl (any_of HT_.out (by kernel_rfl)) (fun _ _ _ h => h) (Or.inl ⟨by rfl, ?_⟩) ?_ ?_
  rotate_left
  · intro w'
    go_simp
    with_reducible rfl
  rotate_left
  · simp only [Act.put, List.setIfInBounds_toArray, List.set_cons_zero, List.set_cons_succ, i64_w, i32_w]
    rfl
  refine take_ (i := 0) (N := some 26) (v := ?_) (a' := ?_) #[true, false, true, false, false, false, false, false] rfl rfl (take_ofW HT_.out HW_.out (by kernel_rfl)) (fun _ _ _ h => h) (Or.inl ⟨by rfl, ?_⟩) hHeld ?_ ?_
  rotate_left
  · rintro w' ⟨s0, s1, s2, s3⟩
    go_simp
    with_reducible rfl
  rotate_left
  · simp only [Act.put, List.setIfInBounds_toArray, List.set_cons_zero, List.set_cons_succ, i64_w, i32_w]
    rfl
  refine take_ (i := 3) (N := some 29) (v := ?_) (a' := ?_) #[true, false, true, true, false, false, false, false] rfl rfl (take_ofW HT_.out HW_.out (by kernel_rfl)) (fun _ _ _ h => h) (Or.inl ⟨by rfl, ?_⟩) hHeld ?_ ?_
  rotate_left
  · rintro w' ⟨s0, s1, s2, s3⟩
    go_simp
    with_reducible rfl
  rotate_left
  · simp only [Act.put, List.setIfInBounds_toArray, List.set_cons_zero, List.set_cons_succ, i64_w, i32_w]
    rfl
  refine one_ (i := 1) (N := some 27) #[true, true, true, true, false, false, false, false] rfl rfl (one_of HT_.out (by kernel_rfl)) (by decide) (fun K hK => ?_)
  refine goes_ Try.func35 (by kernel_rfl) rfl #[.agg #[.int .i64 nx, .slice A l.length c]] (by rfl) rfl rfl (by simp only [List.map_toArray, List.map_cons, List.map_nil]; rfl) ?_
  with_reducible refine ((HY1 _ hwW.drew).out).mono ?_
  rintro e w3 ⟨rfl, hb⟩
  refine ⟨_, rfl, ?_⟩
  have hb3 := hb
  have hw3 : Below w.heap.size w w3 := hwW.drew.trans (hb.mono hwW.drew.size)
  refine hK.out _ _ ⟨pw_cell_below hb (hHeld.1), pw_cell_below hb (hHeld.2.1), pw_cell_below hb (hHeld.2.2.1), pw_cell_below hb (hHeld.2.2.2)⟩ (fun hHeld => ?_)
  clear hK K
  refine norm_ (a' := ?_) ?_ ?_
  rotate_left
  · show Act.put _ (some 27) _ = _
    simp only [Act.put, List.setIfInBounds_toArray, List.set_cons_zero, List.set_cons_succ, i64_w, i32_w]
    rfl
  refine one_ (i := 4) (N := some 30) #[true, true, true, true, true, false, false, false] rfl rfl (one_of HT_.out (by kernel_rfl)) (by decide) (fun K hK => ?_)
  refine goes_ Try.func35 (by kernel_rfl) rfl #[.agg #[.int .i64 nx2, .slice B m.length d]] (by rfl) rfl rfl (by simp only [List.map_toArray, List.map_cons, List.map_nil]; rfl) ?_
  with_reducible refine ((HY2 _ hw3).out).mono ?_
  rintro e w4 ⟨rfl, hb⟩
  refine ⟨_, rfl, ?_⟩
  have hb4 := hb
  have hw4 : Below w.heap.size w w4 := hw3.trans (hb.mono hw3.size)
  have hW4 : Below W.heap.size W w4 := ((Below.refl _ _).drew.trans hb3).trans (hb.mono hb3.size)
  clear hb
  refine hK.out _ _ ⟨pw_cell_below hb4 (hHeld.1), pw_cell_below hb4 (hHeld.2.1), pw_cell_below hb4 (hHeld.2.2.1), pw_cell_below hb4 (hHeld.2.2.2)⟩ (fun hHeld => ?_)
  clear hK K
  refine norm_ (a' := ?_) ?_ ?_
  rotate_left
  · show Act.put _ (some 30) _ = _
    simp only [Act.put, List.setIfInBounds_toArray, List.set_cons_zero, List.set_cons_succ, i64_w, i32_w]
    rfl
  refine pure_ (i := 5) (N := some 31) (v := ?_) (a' := ?_) #[true, true, true, true, true, true, false, false] rfl rfl (any_of HT_.out (by kernel_rfl)) (fun _ _ _ h => h) (Or.inl ⟨by rfl, ?_⟩) ?_ ?_
  rotate_left
  · intro w'
    go_simp
    with_reducible rfl
  rotate_left
  · simp only [Act.put, List.setIfInBounds_toArray, List.set_cons_zero, List.set_cons_succ, i64_w, i32_w]
    rfl
  refine pure_ (i := 6) (N := some 32) (v := ?_) (a' := ?_) #[true, true, true, true, true, true, true, false] rfl rfl (any_of HT_.out (by kernel_rfl)) (fun _ _ _ h => h) (Or.inl ⟨by rfl, ?_⟩) ?_ ?_
  rotate_left
  · intro w'
    go_simp
    with_reducible rfl
  rotate_left
  · simp only [Act.put, List.setIfInBounds_toArray, List.set_cons_zero, List.set_cons_succ, i64_w, i32_w]
    rfl
  refine pure_ (i := 7) (N := some 25) (v := ?_) (a' := ?_) #[true, true, true, true, true, true, true, true] rfl rfl (any_of HT_.out (by kernel_rfl)) (fun _ _ _ h => h) (Or.inl ⟨by rfl, ?_⟩) ?_ ?_
  rotate_left
  · intro w'
    go_simp
    with_reducible rfl
  rotate_left
  · simp only [Act.put, List.setIfInBounds_toArray, List.set_cons_zero, List.set_cons_succ, i64_w, i32_w]
    rfl
  refine done_ (done_of HT_.out (by kernel_rfl)) ?_
  have r07 := pw_cell_below hW4 r0
  have r17 := pw_cell_below hW4 r1
  have rf7 : ∀ j, w4.frozen? ⟨w.heap.size + 1 + 1, j, none⟩ = false := fun j => frozen_below hW4 (show w.heap.size + 1 + 1 < W.heap.size by omega) (rf j)
  clear hHeld
  go_wp2
  refine bodyPost_ret (v := .tuple #[noBucket, .int .i64 76]) (by simp [results, Try.results16, go_sem, noBucket, r07, r17]) rfl ?_
  exact ⟨rfl, by first | exact hw4 | exact (hw4.setCell (by show w.heap.size ≤ w.heap.size + 1 + 1; omega) _).setCell (by show w.heap.size ≤ w.heap.size + 1 + 1; omega) _⟩
set_option maxRecDepth 100000 in
set_option maxHeartbeats 1000000 in
/-- refused for its marker, or for its count -/
theorem apply_marker (l m : List Vn) (nx s nx2 : Int) (A B : Option Addr) (c d : Nat) (w : World) (h1 : s ≠ nx) :
    Calls Try.prog 16 #[.agg #[.int .i64 nx, .slice A l.length c], .agg #[.int .i64 s, .int .i64 nx2, .slice B m.length d]] w fun e w' => e = .returned (.tuple #[noBucket, .int .i64 91]) ∧ Below w.heap.size w w' := by
  have t1 : (s == nx) = false := by simpa using h1
  have t2 : (s != nx) = true := by simpa using h1
  have hwW := below3 w (.cells #[.int .i64 nx, .slice A l.length c] 24) (.cells #[.int .i64 s, .int .i64 nx2, .slice B m.length d] 27) (.cells #[.int .i64 0, .slice none 0 0] 24)
  go_enter Try.func16, Try.ntmps16
  go_wp2
  refine bodyPost_ret (v := .tuple #[noBucket, .int .i64 91]) (by simp [results, Try.results16, go_sem, noBucket]) rfl ?_
  exact ⟨rfl, by first | exact hwW | exact (hwW.setCell (by show w.heap.size ≤ w.heap.size + 1 + 1; omega) _).setCell (by show w.heap.size ≤ w.heap.size + 1 + 1; omega) _⟩
set_option maxRecDepth 100000 in
set_option maxHeartbeats 1000000 in
theorem apply_count (l m : List Vn) (nx s nx2 : Int) (A B : Option Addr) (c d : Nat) (w : World) (hl : l.length ≤ 9223372036854775807) (HR : l.length * 72 ≤ 140737488351232) (HQ : m.length * 72 ≤ 140737488351232) (h1 : s = nx) (h2 : ¬ l.length + m.length ≤ 256) :
    Calls Try.prog 16 #[.agg #[.int .i64 nx, .slice A l.length c], .agg #[.int .i64 s, .int .i64 nx2, .slice B m.length d]] w fun e w' => e = .returned (.tuple #[noBucket, .int .i64 75]) ∧ Below w.heap.size w w' := by
  have t1 : (s == nx) = true := by simpa using h1
  have t2 : (s != nx) = false := by simpa using h1
  subst h1
  have t3 : decide ((256 : Int) < (l.length : Int) + (m.length : Int)) = true := decide_eq_true (by omega)
  have hwW := below3 w (.cells #[.int .i64 s, .slice A l.length c] 24) (.cells #[.int .i64 s, .int .i64 nx2, .slice B m.length d] 27) (.cells #[.int .i64 0, .slice none 0 0] 24)
  go_enter Try.func16, Try.ntmps16
  go_wp2
  refine bodyPost_ret (v := .tuple #[noBucket, .int .i64 75]) (by simp [results, Try.results16, go_sem, noBucket]) rfl ?_
  exact ⟨rfl, by first | exact hwW | exact (hwW.setCell (by show w.heap.size ≤ w.heap.size + 1 + 1; omega) _).setCell (by show w.heap.size ≤ w.heap.size + 1 + 1; omega) _⟩
end Go.Proofs.Ytbhdehkdnenigaa

namespace Go.Proofs.Ytbhdehkdnenigaa.PD3
open PDeltaLaid Go.RowKit Go.Proofs.YtbhdehkdnenigaaW.PrintWords Go.Proofs.YtbhdehkdnenigaaW.PrintLast Go.Proofs.YtbhdehkdnenigaaW.PrintMore
attribute [local go_sem] max2_int min2_int max_two min_two max_three min_three max_four min_four   -- for this text's walks alone
set_option linter.unusedVariables false
set_option linter.unusedSimpArgs false

/-! ### cofferlaw19_example: function 27 -/
def cofferlaw19_example.f  : Option (Int × (List (S48))) := some (5, (([(⟨(⟨#[97]⟩ : ByteArray), 1, false, (⟨#[120]⟩ : ByteArray), ([] : List (S60))⟩ : S48), (⟨(⟨#[97]⟩ : ByteArray), 4, true, (⟨#[]⟩ : ByteArray), ([] : List (S60))⟩ : S48), (⟨(⟨#[98]⟩ : ByteArray), 2, false, (⟨#[121]⟩ : ByteArray), ([] : List (S60))⟩ : S48)] : List (S48))))
set_option maxHeartbeats 8000000 in
set_option maxRecDepth 100000 in
theorem cofferlaw19_example.calls  (r1 : Int) (r2 : List (S48)) (w : World) (h : cofferlaw19_example.f  = some (r1, r2)) :
    Calls Try.prog 27 #[] w fun e w' => ∃ v1_ : Value, e = .returned (.agg #[.int .i64 r1, v1_]) ∧ Kd.S k48 48 w' w.heap.size (fun _ => True) v1_ r2 ∧ Below w.heap.size w w' := by
  have hu24 := Try.underlying24
  have hu48 := Try.underlying48
  have HB := Aside0.mk (Below.refl w.heap.size w)
  have H : (some (5, (([(⟨(⟨#[97]⟩ : ByteArray), 1, false, (⟨#[120]⟩ : ByteArray), ([] : List (S60))⟩ : S48), (⟨(⟨#[97]⟩ : ByteArray), 4, true, (⟨#[]⟩ : ByteArray), ([] : List (S60))⟩ : S48), (⟨(⟨#[98]⟩ : ByteArray), 2, false, (⟨#[121]⟩ : ByteArray), ([] : List (S60))⟩ : S48)] : List (S48))))) = some (r1, r2) := h
  clear h
  obtain ⟨y152, hy152⟩ : ∃ y_ : List (S48), y_ = (([(⟨(⟨#[97]⟩ : ByteArray), 1, false, (⟨#[120]⟩ : ByteArray), ([] : List (S60))⟩ : S48), (⟨(⟨#[97]⟩ : ByteArray), 4, true, (⟨#[]⟩ : ByteArray), ([] : List (S60))⟩ : S48), (⟨(⟨#[98]⟩ : ByteArray), 2, false, (⟨#[121]⟩ : ByteArray), ([] : List (S60))⟩ : S48)] : List (S48))) := ⟨_, rfl⟩
  replace H : (some (5, y152)) = some (r1, r2) := by first | (rw [hy152]; with_reducible exact H) | (have H2_ := (Option.bind_some _ _).symm.trans H; rw [hy152]; with_reducible exact H2_) | (have H2_ := (Option.bind_some _ _).symm.trans H; with_reducible exact H2_) | with_reducible exact H | (rw [hy152]; exact H) | exact H
  have Ny152 := Aside0.mk hy152
  clear hy152
  simp only [Option.some.injEq, Prod.mk.injEq] at H
  obtain ⟨rfl, rfl⟩ := H
  go_enter Try.func27, Try.ntmps27
  go_wp2_with (first | ((with_reducible refine gate_dst (N := 0) rfl ?_); refine box_event ?hg (N := 0) ?hd (cs := #[.int .i64 0, .slice none 0 0]) (t := 24) ?hr ?_; (case hd => rfl); (case hg => rfl); (case hr => first | (go_simp; done) | (go_simp; rfl)); intro gb151 hg w1 hbox hb; have n0_ := Aside0.mk (below_step (by repeat (first | (with_reducible first | exact HB.out | apply below_alloc | apply pw_below_drewN | apply below_drew1) | exact HB.out)) hb); have n1_ := Aside0.mk (hbox); have n2_ := Aside0.mk ((by rw [hg]; exact (below_size (by repeat (first | (with_reducible first | exact HB.out | apply below_alloc | apply pw_below_drewN | apply below_drew1) | exact HB.out))) : w.heap.size ≤ gb151)); have n3_ := Aside0.mk ((by rw [hg]; exact (below_size (by repeat (first | (with_reducible first | exact HB.out | apply below_alloc | apply pw_below_drewN | apply below_drew1) | exact HB.out))) : w.heap.size ≤ gb151)); clear HB; have HB := n0_; have BK151 := n1_; have GW151 := n2_; have GE151 := n3_; clear n0_ n1_ n2_ n3_; clear hb hbox hg) | ((with_reducible refine gate_dst (N := 4) rfl ?_); refine Kd.S_lit k48 _ 48 ?hg (N := 4) ?hd (xs := ([(⟨(⟨#[97]⟩ : ByteArray), 1, false, (⟨#[120]⟩ : ByteArray), ([] : List (S60))⟩ : S48), (⟨(⟨#[97]⟩ : ByteArray), 4, true, (⟨#[]⟩ : ByteArray), ([] : List (S60))⟩ : S48), (⟨(⟨#[98]⟩ : ByteArray), 2, false, (⟨#[121]⟩ : ByteArray), ([] : List (S60))⟩ : S48)] : List (S48))) (inner := [.string (⟨#[97]⟩ : ByteArray), .int .i64 1, .bool false, .string (⟨#[120]⟩ : ByteArray), .slice none 0 0, .string (⟨#[97]⟩ : ByteArray), .int .i64 4, .bool true, .string (⟨#[]⟩ : ByteArray), .slice none 0 0, .string (⟨#[98]⟩ : ByteArray), .int .i64 2, .bool false, .string (⟨#[121]⟩ : ByteArray), .slice none 0 0]) (ok := fun _ => True) (okp := fun _ => True) ?hr ?hp (fun _ hk => hk) trivial (Below.refl _ _) (Nat.le_refl _) (by simp) ?_; (case hd => rfl); (case hg => rfl); (case hr => first | (go_simp; done) | (go_simp; rfl)); (case hp => exact (Reps.c5 (show Kd.M k48 _ _ _ (⟨(⟨#[97]⟩ : ByteArray), 1, false, (⟨#[120]⟩ : ByteArray), ([] : List (S60))⟩ : S48) [.string (⟨#[97]⟩ : ByteArray), .int .i64 1, .bool false, .string (⟨#[120]⟩ : ByteArray), .slice none 0 0] from (k48_mkM _ _ _ (⟨(⟨#[97]⟩ : ByteArray), 1, false, (⟨#[120]⟩ : ByteArray), ([] : List (S60))⟩ : S48) (Kd.R_nil _ _ _ _ _))) (Reps.c5 (show Kd.M k48 _ _ _ (⟨(⟨#[97]⟩ : ByteArray), 4, true, (⟨#[]⟩ : ByteArray), ([] : List (S60))⟩ : S48) [.string (⟨#[97]⟩ : ByteArray), .int .i64 4, .bool true, .string (⟨#[]⟩ : ByteArray), .slice none 0 0] from (k48_mkM _ _ _ (⟨(⟨#[97]⟩ : ByteArray), 4, true, (⟨#[]⟩ : ByteArray), ([] : List (S60))⟩ : S48) (Kd.R_nil _ _ _ _ _))) (Reps.c5 (show Kd.M k48 _ _ _ (⟨(⟨#[98]⟩ : ByteArray), 2, false, (⟨#[121]⟩ : ByteArray), ([] : List (S60))⟩ : S48) [.string (⟨#[98]⟩ : ByteArray), .int .i64 2, .bool false, .string (⟨#[121]⟩ : ByteArray), .slice none 0 0] from (k48_mkM _ _ _ (⟨(⟨#[98]⟩ : ByteArray), 2, false, (⟨#[121]⟩ : ByteArray), ([] : List (S60))⟩ : S48) (Kd.R_nil _ _ _ _ _))) (Reps.none _ _))))); intro v153 w2 ho3 hb hg_ hnew_; clear hg_ hnew_; (first | rw [← Ny152.out] at ho3 | (simp only [Int.reduceToNat] at ho3; rw [← Ny152.out] at ho3)); have n0_ := Aside0.mk (Kd.S_lower ho3 (below_size (by repeat (first | (with_reducible first | exact HB.out | apply below_alloc | apply pw_below_drewN | apply below_drew1 | refine below_set ?_ GE151.out) | exact HB.out)))); have n1_ := Aside0.mk (blk_below (g := gb151) (o := .cells #[.int .i64 0, .slice none 0 0] 24 (0, 0)) (by (with_reducible repeat (first | refine blk_drewN ?_ _ | refine blk_drew ?_ | refine blk_alloc ?_ _)); exact BK151.out) hb); have n2_ := Aside0.mk (below_step (by repeat (first | (with_reducible first | exact HB.out | apply below_alloc | apply pw_below_drewN | apply below_drew1 | refine below_set ?_ GE151.out) | exact HB.out)) hb); clear BK151; clear HB; have HO154 := n0_; have BK151 := n1_; have HB := n2_; clear n0_ n1_ n2_; clear hb ho3; obtain ⟨Ao4, co4, eo4⟩ := Kd.S_slice HO154.out; subst eo4; have hcz5_0 : w2.cell? ⟨gb151, 0, none⟩ = some (.int .i64 0) := (blk_cell BK151.out 0).trans rfl; have hcz5_1 : w2.cell? ⟨gb151, 1, none⟩ = some (.slice none 0 0) := (blk_cell BK151.out 1).trans rfl; have hfz5_0 := blk_frozen BK151.out 0; have hfz5_1 := blk_frozen BK151.out 1))
  refine bodyPost_ret (results_cell_row rfl _ _ gb151 24 #[.int .i64 5, .slice Ao4 y152.length co4] (0, 0) _ rfl (by (with_reducible repeat (first | refine blk_drewN ?_ _ | refine blk_drew ?_ | refine blk_alloc ?_ _)); refine blk_put (cs := #[.int .i64 5, .slice none 0 0]) ?_ 1 _ rfl; (with_reducible repeat (first | refine blk_drewN ?_ _ | refine blk_drew ?_ | refine blk_alloc ?_ _)); refine blk_put (cs := #[.int .i64 0, .slice none 0 0]) ?_ 0 _ rfl; (with_reducible repeat (first | refine blk_drewN ?_ _ | refine blk_drew ?_ | refine blk_alloc ?_ _)); exact BK151.out) Try.underlying24 rfl (by kernel_rfl)) rfl ?_
  exact ⟨_, by first | rfl | (simp [errW_none, errW_some] <;> rfl) | (simp [*, errW_none, errW_some] <;> rfl), by (with_reducible repeat (first | apply Kd.S_alloc | apply Kd.S_drewN | apply Kd.S_drew)); exact Kd.S_mono (Kd.S_far (p := ⟨gb151, 1, none⟩) (Kd.S_far (p := ⟨gb151, 0, none⟩) (Kd.S_types HO154.out BK151.out (by decide)) (fun _ hk => hk.2) (.int .i64 5)) (fun _ hk => hk.2) (.slice Ao4 y152.length co4)) (fun _ hk => trivial), by repeat (first | (with_reducible first | exact HB.out | apply below_alloc | apply pw_below_drewN | apply below_drew1 | refine below_set ?_ GE151.out) | exact HB.out)⟩

-- NOT PRINTED: function 8 (cofferlaw19_first)

-- NOT PRINTED: function 29 (cofferref15_Own)

-- NOT PRINTED: function 10 (cofferref15_Copy)

end Go.Proofs.Ytbhdehkdnenigaa.PD3

set_option linter.unusedVariables false
set_option linter.unusedSimpArgs false
namespace Go.Proofs.Ytbhdehkdnenigaa
open Go.RowKit Go.Proofs.YtbhdehkdnenigaaW.PrintWords
attribute [local go_sem] Vn.val noDelta noBucket

def va1 : Vn := ⟨⟨#[97]⟩, 1, false, ⟨#[120]⟩, []⟩
def va4 : Vn := ⟨⟨#[97]⟩, 4, true, ⟨#[]⟩, []⟩
def vb2 : Vn := ⟨⟨#[98]⟩, 2, false, ⟨#[121]⟩, []⟩
def exL : List Vn := [va1, va4, vb2]
theorem example_any (w : World) : Calls Try.prog 27 #[] w fun e w' => ∃ A c, e = .returned (.agg #[.int .i64 5, .slice A 3 c]) ∧ 3 ≤ c ∧ kVn.C w' A 3 exL ∧ Below w.heap.size w w' := by
  refine (PD3.cofferlaw19_example.calls _ _ w rfl).mono ?_
  rintro e w' ⟨v, rfl, hv, hb⟩
  obtain ⟨A, c, rfl, hc, hC⟩ := Kd.S_reads hv
  exact ⟨A, c, rfl, hc, C_of48 hC, hb⟩
def flat (x : Vn) : List Value := [.string x.key, .int .i64 x.seq, .bool x.gone, .string x.data, .slice none 0 0]
theorem flat_K (w : World) (x : Vn) (h : x.pairs = []) : kVn.K w x (flat x) := by
  have := kVn_mk w x (A := none) (c := 0) (by rw [h]; exact Nat.le_refl _) (by rw [h]; exact ⟨rfl, by decide, fun h => absurd h (by decide)⟩)
  rw [h] at this
  exact this
theorem C_one (w : World) (b : Nat) (hb : b = w.heap.size) (x : Vn) (hx : x.pairs = []) : kVn.C (w.alloc (.cells #[.string x.key, .int .i64 x.seq, .bool x.gone, .string x.data, .slice none 0 0] 48)) (some ⟨b, 0, none⟩) 1 [x] := by
  subst hb
  refine ⟨rfl, by decide, fun _ => ⟨_, rfl, fun j p hj => ?_⟩⟩
  match j, hj with
  | 0, hj =>
    cases hj
    refine ⟨flat x, rfl, flat_K _ x hx, fun i u hu => ?_⟩
    match i, hu with
    | 0, hu => cases hu; simp [go_sem, add_plain, show kVn.sz = 5 from rfl]
    | 1, hu => cases hu; simp [go_sem, add_plain, show kVn.sz = 5 from rfl]
    | 2, hu => cases hu; simp [go_sem, add_plain, show kVn.sz = 5 from rfl]
    | 3, hu => cases hu; simp [go_sem, add_plain, show kVn.sz = 5 from rfl]
    | 4, hu => cases hu; simp [go_sem, add_plain, show kVn.sz = 5 from rfl]
theorem C_two (w : World) (b : Nat) (hb : b = w.heap.size) (x y : Vn) (hx : x.pairs = []) (hy : y.pairs = []) : kVn.C (w.alloc (.cells #[.string x.key, .int .i64 x.seq, .bool x.gone, .string x.data, .slice none 0 0, .string y.key, .int .i64 y.seq, .bool y.gone, .string y.data, .slice none 0 0] 48)) (some ⟨b, 0, none⟩) 2 [x, y] := by
  subst hb
  refine ⟨rfl, by decide, fun _ => ⟨_, rfl, fun j p hj => ?_⟩⟩
  match j, hj with
  | 0, hj =>
    cases hj
    refine ⟨flat x, rfl, flat_K _ x hx, fun i u hu => ?_⟩
    match i, hu with
    | 0, hu => cases hu; simp [go_sem, add_plain, show kVn.sz = 5 from rfl]
    | 1, hu => cases hu; simp [go_sem, add_plain, show kVn.sz = 5 from rfl]
    | 2, hu => cases hu; simp [go_sem, add_plain, show kVn.sz = 5 from rfl]
    | 3, hu => cases hu; simp [go_sem, add_plain, show kVn.sz = 5 from rfl]
    | 4, hu => cases hu; simp [go_sem, add_plain, show kVn.sz = 5 from rfl]
  | 1, hj =>
    cases hj
    refine ⟨flat y, rfl, flat_K _ y hy, fun i u hu => ?_⟩
    match i, hu with
    | 0, hu => cases hu; simp [go_sem, add_plain, show kVn.sz = 5 from rfl]
    | 1, hu => cases hu; simp [go_sem, add_plain, show kVn.sz = 5 from rfl]
    | 2, hu => cases hu; simp [go_sem, add_plain, show kVn.sz = 5 from rfl]
    | 3, hu => cases hu; simp [go_sem, add_plain, show kVn.sz = 5 from rfl]
    | 4, hu => cases hu; simp [go_sem, add_plain, show kVn.sz = 5 from rfl]
theorem fits_small (x : Vn) (h : x = va1 ∨ x = va4 ∨ x = vb2) : x.Fits ∧ x.pairs.length * 32 ≤ 140737488351232 := by
  rcases h with rfl | rfl | rfl
  all_goals exact ⟨⟨by decide, by decide, fun p hp => by cases hp⟩, by decide⟩
theorem room_of {l : List Vn} (h : l.length ≤ 3) (hm : ∀ x ∈ l, x = va1 ∨ x = va4 ∨ x = vb2) : Room l :=
  ⟨by omega, fun x hx => (fits_small x (hm x hx)).2, fun x hx => (fits_small x (hm x hx)).1⟩
theorem room_ex : Room exL := room_of (by decide) (fun x hx => by simpa [exL] using hx)
theorem room_u : Room [va1, vb2] := room_of (by decide) (fun x hx => by simp at hx; rcases hx with h | h <;> simp [h])
theorem room_d : Room [va4] := room_of (by decide) (fun x hx => by simp at hx; simp [hx])
theorem since_ex : since exL 3 = [va4] := by decide
theorem mrg_ex : mrg (since [va1, vb2] all64) (since [va4] all64) = exL := by
  have h1 : since [va1, vb2] all64 = [va1, vb2] := by decide
  have h2 : since [va4] all64 = [va4] := by decide
  rw [h1, h2, mrg, if_neg (of_decide_eq_false (show decide (ordE va4 va1 < 0) = false by kernel_rfl)), mrg, if_pos (of_decide_eq_true (show decide (ordE va4 vb2 < 0) = true by kernel_rfl)), mrg_end (.inr rfl)]
  rfl
theorem right_d : dRightV [va4] 5 3 = true := by kernel_rfl
theorem right_v : dRightV exL 5 6 = false := rfl
theorem since_ex3 (A : Option Addr) (c : Nat) (w : World) (hC : kVn.C w A 3 exL) (hc : 3 ≤ c) :
    Calls Try.prog 9 #[.agg #[.int .i64 5, .slice A 3 c], .int .i64 3] w fun e w' => ∃ B d, e = .returned (.tuple #[.agg #[.int .i64 3, .int .i64 5, .slice B 1 d], .int .i64 0]) ∧ 1 ≤ d ∧ kVn.C w' B 1 [va4] ∧ Below w.heap.size w w' := by
  refine (since_any exL 5 3 A c w hC hc room_ex (by decide) (by decide)).mono ?_
  rintro e w' ⟨v, rfl, hv, hb⟩
  rw [since_ex] at hv
  obtain ⟨B, d, rfl, hd, hD⟩ := Kd.R_reads hv
  exact ⟨B, d, rfl, hd, hD, hb⟩
theorem since_ex6 (A : Option Addr) (c : Nat) (w : World) :
    Calls Try.prog 9 #[.agg #[.int .i64 5, .slice A 3 c], .int .i64 6] w fun e w' => e = .returned (.tuple #[.agg #[.int .i64 0, .int .i64 0, .slice none 0 0], .int .i64 1]) ∧ Below w.heap.size w w' :=
  since_bad exL 5 6 A c w (.inr (by decide))
theorem apply_ex (A B : Option Addr) (c d : Nat) (w : World) (hC : kVn.C w A 2 [va1, vb2]) (hc : 2 ≤ c) (hD : kVn.C w B 1 [va4]) (hd : 1 ≤ d) :
    Calls Try.prog 16 #[.agg #[.int .i64 3, .slice A 2 c], .agg #[.int .i64 3, .int .i64 5, .slice B 1 d]] w fun e w' => ∃ G k, e = .returned (.tuple #[.agg #[.int .i64 5, .slice G 3 k], .int .i64 0]) ∧ 3 ≤ k ∧ kVn.C w' G 3 exL ∧ Below w.heap.size w w' := by
  refine (apply_any [va1, vb2] [va4] 3 3 5 A B c d w hC hc room_u hD hd room_d rfl (by decide) (of_decide_eq_true (by kernel_rfl))).mono ?_
  rintro e w' ⟨v, rfl, hv, hb⟩
  rw [mrg_ex] at hv
  obtain ⟨G, k, rfl, hk, hG⟩ := Kd.R_reads hv
  exact ⟨G, k, rfl, hk, hG, hb⟩
theorem apply_ex2 (A B : Option Addr) (c d : Nat) (w : World) :
    Calls Try.prog 16 #[.agg #[.int .i64 5, .slice A 3 c], .agg #[.int .i64 3, .int .i64 5, .slice B 1 d]] w fun e w' => e = .returned (.tuple #[.agg #[.int .i64 0, .slice none 0 0], .int .i64 91]) ∧ Below w.heap.size w w' :=
  apply_marker exL [va4] 5 3 5 A B c d w (by decide)
theorem same_d (A B : Option Addr) (c d : Nat) (w : World) (hC : kVn.C w A 1 [va4]) (hc : 1 ≤ c) (hD : kVn.C w B 1 [va4]) (hd : 1 ≤ d) :
    Calls Try.prog 13 #[.agg #[.int .i64 3, .int .i64 5, .slice A 1 c], .agg #[.int .i64 3, .int .i64 5, .slice B 1 d]] w fun e w' => e = .returned (.bool true) ∧ Below w.heap.size w w' := by
  refine (same19_any [va4] [va4] 3 5 3 5 A B c d w hC hD hc hd).mono ?_
  rintro e w' ⟨rfl, hb⟩
  exact ⟨by simp [sVns], hb⟩
theorem same_v (A B : Option Addr) (c d : Nat) (w : World) (hC : kVn.C w A 3 exL) (hc : 3 ≤ c) (hD : kVn.C w B 3 exL) (hd : 3 ≤ d) :
    Calls Try.prog 18 #[.agg #[.int .i64 5, .slice A 3 c], .agg #[.int .i64 5, .slice B 3 d]] w fun e w' => e = .returned (.bool true) ∧ Below w.heap.size w w' := by
  refine (same_any exL exL 5 5 A B c d w hC hD hc hd).mono ?_
  rintro e w' ⟨rfl, hb⟩
  exact ⟨by simp [sVns], hb⟩
theorem right_ex1 (A : Option Addr) (c : Nat) (w : World) (hC : kVn.C w A 1 [va4]) (hc : 1 ≤ c) :
    Calls Try.prog 15 #[.agg #[.int .i64 3, .int .i64 5, .slice A 1 c]] w fun e w' => e = .returned (.bool true) ∧ Below w.heap.size w w' := by
  refine (dRight_any [va4] 5 3 A c w hC hc room_d.fits).mono ?_
  rintro e w' ⟨rfl, hb⟩
  exact ⟨by rw [right_d], hb⟩
theorem right_ex2 (A : Option Addr) (c : Nat) (w : World) (hC : kVn.C w A 3 exL) (hc : 3 ≤ c) :
    Calls Try.prog 15 #[.agg #[.int .i64 6, .int .i64 5, .slice A 3 c]] w fun e w' => e = .returned (.bool false) ∧ Below w.heap.size w w' := by
  refine (dRight_any exL 5 6 A c w hC hc room_ex.fits).mono ?_
  rintro e w' ⟨rfl, hb⟩
  exact ⟨by rw [right_v], hb⟩
end Go.Proofs.Ytbhdehkdnenigaa

set_option linter.unusedVariables false
set_option linter.unusedSimpArgs false
namespace Go.Proofs.Ytbhdehkdnenigaa
open Go.RowKit Go.Proofs.YtbhdehkdnenigaaW.PrintWords
theorem bt {x y z : World} (a : Below x.heap.size x y) (b : Below y.heap.size y z) : Below x.heap.size x z := a.trans (b.mono a.size)
theorem u8_C (w5 : World) : kVn.C (World.alloc (World.alloc w5 (.cells #[.int .i64 0, .slice none 0 0] 24)) (.cells #[.string ⟨#[97]⟩, .int .i64 4, .bool true, .string ⟨#[]⟩, .slice none 0 0] 48)) (some ⟨w5.heap.size + 1, 0, none⟩) 1 [va4] := by
  have h := C_one (World.alloc w5 (.cells #[.int .i64 0, .slice none 0 0] 24)) (w5.heap.size + 1) (by simp [go_sem]) va4 rfl
  exact h
set_option maxRecDepth 100000 in
set_option maxHeartbeats 2000000 in
theorem first_any (w : World) : Calls Try.prog 8 #[] w fun e w' => e = .returned (.bool true) ∧ Below w.heap.size w w' := by
  go_enter Try.func8, Try.ntmps8
  go_wp2_with (first
    | (go_at_call 27; with_reducible refine (example_any _).mono ?_; rintro e w1 ⟨A1, c1, rfl, hc1, hC1, hb1⟩; have HC1 := Lib.hid hC1; clear hC1; have L1 := below1 w1 (.cells #[.int .i64 5, .slice A1 3 c1] 24))
    | (go_at_call 9; with_reducible refine (since_ex3 A1 c1 _ (Kd.C_below HC1.out L1) hc1).mono ?_; rintro e w2 ⟨A2, c2, rfl, hc2, hC2, hb2⟩; have HC2 := Lib.hid hC2; clear hC2; have L2 := below1 w2 (.cells #[.int .i64 3, .int .i64 5, .slice A2 1 c2] 27); have x10 : World.cell? (World.alloc w2 (.cells #[.int .i64 3, .int .i64 5, .slice A2 1 c2] 27)) ⟨w1.heap.size, 0, none⟩ = some (.int .i64 5) := pw_cell_below L2 (box_cell hb2 (i := 0) rfl); have x11 : World.cell? (World.alloc w2 (.cells #[.int .i64 3, .int .i64 5, .slice A2 1 c2] 27)) ⟨w1.heap.size, 1, none⟩ = some (.slice A1 3 c1) := pw_cell_below L2 (box_cell hb2 (i := 1) rfl))
    | (go_at_call 9; with_reducible refine (since_ex6 A1 c1 _).mono ?_; rintro e w3 ⟨rfl, hb3⟩; have L5 : Below w3.heap.size w3 (World.alloc (World.alloc (World.alloc w3 (.cells #[.int .i64 0, .int .i64 0, .slice none 0 0] 27)) (.cells #[.string ⟨#[97]⟩, .int .i64 1, .bool false, .string ⟨#[120]⟩, .slice none 0 0, .string ⟨#[98]⟩, .int .i64 2, .bool false, .string ⟨#[121]⟩, .slice none 0 0] 48)) (.cells #[.int .i64 3, .slice (some ⟨w3.heap.size + 1, 0, none⟩) 2 2] 24)) := below3 _ _ _ _; have U5 : Hid (kVn.C (World.alloc (World.alloc (World.alloc w3 (.cells #[.int .i64 0, .int .i64 0, .slice none 0 0] 27)) (.cells #[.string ⟨#[97]⟩, .int .i64 1, .bool false, .string ⟨#[120]⟩, .slice none 0 0, .string ⟨#[98]⟩, .int .i64 2, .bool false, .string ⟨#[121]⟩, .slice none 0 0] 48)) (.cells #[.int .i64 3, .slice (some ⟨w3.heap.size + 1, 0, none⟩) 2 2] 24)) (some ⟨w3.heap.size + 1, 0, none⟩) 2 [va1, vb2]) := Lib.hid (Kd.C_below (C_two (World.alloc w3 (.cells #[.int .i64 0, .int .i64 0, .slice none 0 0] 27)) (w3.heap.size + 1) (by simp [go_sem]) va1 vb2 rfl rfl) (below1 _ _)); have y50 : World.cell? (World.alloc (World.alloc (World.alloc w3 (.cells #[.int .i64 0, .int .i64 0, .slice none 0 0] 27)) (.cells #[.string ⟨#[97]⟩, .int .i64 1, .bool false, .string ⟨#[120]⟩, .slice none 0 0, .string ⟨#[98]⟩, .int .i64 2, .bool false, .string ⟨#[121]⟩, .slice none 0 0] 48)) (.cells #[.int .i64 3, .slice (some ⟨w3.heap.size + 1, 0, none⟩) 2 2] 24)) ⟨w2.heap.size, 0, none⟩ = some (.int .i64 3) := pw_cell_below L5 (box_cell hb3 (i := 0) rfl); have y51 : World.cell? (World.alloc (World.alloc (World.alloc w3 (.cells #[.int .i64 0, .int .i64 0, .slice none 0 0] 27)) (.cells #[.string ⟨#[97]⟩, .int .i64 1, .bool false, .string ⟨#[120]⟩, .slice none 0 0, .string ⟨#[98]⟩, .int .i64 2, .bool false, .string ⟨#[121]⟩, .slice none 0 0] 48)) (.cells #[.int .i64 3, .slice (some ⟨w3.heap.size + 1, 0, none⟩) 2 2] 24)) ⟨w2.heap.size, 1, none⟩ = some (.int .i64 5) := pw_cell_below L5 (box_cell hb3 (i := 1) rfl); have y52 : World.cell? (World.alloc (World.alloc (World.alloc w3 (.cells #[.int .i64 0, .int .i64 0, .slice none 0 0] 27)) (.cells #[.string ⟨#[97]⟩, .int .i64 1, .bool false, .string ⟨#[120]⟩, .slice none 0 0, .string ⟨#[98]⟩, .int .i64 2, .bool false, .string ⟨#[121]⟩, .slice none 0 0] 48)) (.cells #[.int .i64 3, .slice (some ⟨w3.heap.size + 1, 0, none⟩) 2 2] 24)) ⟨w2.heap.size, 2, none⟩ = some (.slice A2 1 c2) := pw_cell_below L5 (box_cell hb3 (i := 2) rfl); have x50 : World.cell? (World.alloc (World.alloc (World.alloc w3 (.cells #[.int .i64 0, .int .i64 0, .slice none 0 0] 27)) (.cells #[.string ⟨#[97]⟩, .int .i64 1, .bool false, .string ⟨#[120]⟩, .slice none 0 0, .string ⟨#[98]⟩, .int .i64 2, .bool false, .string ⟨#[121]⟩, .slice none 0 0] 48)) (.cells #[.int .i64 3, .slice (some ⟨w3.heap.size + 1, 0, none⟩) 2 2] 24)) ⟨w1.heap.size, 0, none⟩ = some (.int .i64 5) := pw_cell_below L5 (pw_cell_below hb3 x10); have x51 : World.cell? (World.alloc (World.alloc (World.alloc w3 (.cells #[.int .i64 0, .int .i64 0, .slice none 0 0] 27)) (.cells #[.string ⟨#[97]⟩, .int .i64 1, .bool false, .string ⟨#[120]⟩, .slice none 0 0, .string ⟨#[98]⟩, .int .i64 2, .bool false, .string ⟨#[121]⟩, .slice none 0 0] 48)) (.cells #[.int .i64 3, .slice (some ⟨w3.heap.size + 1, 0, none⟩) 2 2] 24)) ⟨w1.heap.size, 1, none⟩ = some (.slice A1 3 c1) := pw_cell_below L5 (pw_cell_below hb3 x11); have K25 := Lib.hid (bt (box_below hb3) L5); have K15 := Lib.hid (bt (box_below hb2) K25.out))
    | (go_at_call 16; with_reducible refine (apply_ex (some ⟨w3.heap.size + 1, 0, none⟩) A2 2 c2 _ U5.out (Nat.le_refl _) (Kd.C_below HC2.out K25.out) hc2).mono ?_; rintro e w4 ⟨A4, c4, rfl, hc4, hC4, hb4⟩; have HC4 := Lib.hid hC4; clear hC4; have L6 : Below w4.heap.size w4 (World.alloc w4 (.cells #[.int .i64 5, .slice A4 3 c4] 24)) := below1 _ _; have y60 : World.cell? (World.alloc w4 (.cells #[.int .i64 5, .slice A4 3 c4] 24)) ⟨w2.heap.size, 0, none⟩ = some (.int .i64 3) := pw_cell_below L6 (pw_cell_below hb4 y50); have y61 : World.cell? (World.alloc w4 (.cells #[.int .i64 5, .slice A4 3 c4] 24)) ⟨w2.heap.size, 1, none⟩ = some (.int .i64 5) := pw_cell_below L6 (pw_cell_below hb4 y51); have y62 : World.cell? (World.alloc w4 (.cells #[.int .i64 5, .slice A4 3 c4] 24)) ⟨w2.heap.size, 2, none⟩ = some (.slice A2 1 c2) := pw_cell_below L6 (pw_cell_below hb4 y52); have x60 : World.cell? (World.alloc w4 (.cells #[.int .i64 5, .slice A4 3 c4] 24)) ⟨w1.heap.size, 0, none⟩ = some (.int .i64 5) := pw_cell_below L6 (pw_cell_below hb4 x50); have x61 : World.cell? (World.alloc w4 (.cells #[.int .i64 5, .slice A4 3 c4] 24)) ⟨w1.heap.size, 1, none⟩ = some (.slice A1 3 c1) := pw_cell_below L6 (pw_cell_below hb4 x51); have K26 := Lib.hid (bt (bt K25.out hb4) L6); have K16 := Lib.hid (bt (bt K15.out hb4) L6))
    | (go_at_call 16; with_reducible refine (apply_ex2 A1 A2 c1 c2 _).mono ?_; rintro e w5 ⟨rfl, hb5⟩; have L8 : Below w5.heap.size w5 (World.alloc (World.alloc w5 (.cells #[.int .i64 0, .slice none 0 0] 24)) (.cells #[.string ⟨#[97]⟩, .int .i64 4, .bool true, .string ⟨#[]⟩, .slice none 0 0] 48)) := below2 _ _ _; have L7 : Below w5.heap.size w5 (World.alloc w5 (.cells #[.int .i64 0, .slice none 0 0] 24)) := below1 _ _; have U8 : Hid (kVn.C (World.alloc (World.alloc w5 (.cells #[.int .i64 0, .slice none 0 0] 24)) (.cells #[.string ⟨#[97]⟩, .int .i64 4, .bool true, .string ⟨#[]⟩, .slice none 0 0] 48)) (some ⟨w5.heap.size + 1, 0, none⟩) 1 [va4]) := Lib.hid (u8_C w5); have y70 : World.cell? (World.alloc w5 (.cells #[.int .i64 0, .slice none 0 0] 24)) ⟨w2.heap.size, 0, none⟩ = some (.int .i64 3) := pw_cell_below L7 (pw_cell_below hb5 y60); have y71 : World.cell? (World.alloc w5 (.cells #[.int .i64 0, .slice none 0 0] 24)) ⟨w2.heap.size, 1, none⟩ = some (.int .i64 5) := pw_cell_below L7 (pw_cell_below hb5 y61); have y72 : World.cell? (World.alloc w5 (.cells #[.int .i64 0, .slice none 0 0] 24)) ⟨w2.heap.size, 2, none⟩ = some (.slice A2 1 c2) := pw_cell_below L7 (pw_cell_below hb5 y62); have y80 : World.cell? (World.alloc (World.alloc w5 (.cells #[.int .i64 0, .slice none 0 0] 24)) (.cells #[.string ⟨#[97]⟩, .int .i64 4, .bool true, .string ⟨#[]⟩, .slice none 0 0] 48)) ⟨w2.heap.size, 0, none⟩ = some (.int .i64 3) := pw_cell_below L8 (pw_cell_below hb5 y60); have y81 : World.cell? (World.alloc (World.alloc w5 (.cells #[.int .i64 0, .slice none 0 0] 24)) (.cells #[.string ⟨#[97]⟩, .int .i64 4, .bool true, .string ⟨#[]⟩, .slice none 0 0] 48)) ⟨w2.heap.size, 1, none⟩ = some (.int .i64 5) := pw_cell_below L8 (pw_cell_below hb5 y61); have y82 : World.cell? (World.alloc (World.alloc w5 (.cells #[.int .i64 0, .slice none 0 0] 24)) (.cells #[.string ⟨#[97]⟩, .int .i64 4, .bool true, .string ⟨#[]⟩, .slice none 0 0] 48)) ⟨w2.heap.size, 2, none⟩ = some (.slice A2 1 c2) := pw_cell_below L8 (pw_cell_below hb5 y62); have x80 : World.cell? (World.alloc (World.alloc w5 (.cells #[.int .i64 0, .slice none 0 0] 24)) (.cells #[.string ⟨#[97]⟩, .int .i64 4, .bool true, .string ⟨#[]⟩, .slice none 0 0] 48)) ⟨w1.heap.size, 0, none⟩ = some (.int .i64 5) := pw_cell_below L8 (pw_cell_below hb5 x60); have x81 : World.cell? (World.alloc (World.alloc w5 (.cells #[.int .i64 0, .slice none 0 0] 24)) (.cells #[.string ⟨#[97]⟩, .int .i64 4, .bool true, .string ⟨#[]⟩, .slice none 0 0] 48)) ⟨w1.heap.size, 1, none⟩ = some (.slice A1 3 c1) := pw_cell_below L8 (pw_cell_below hb5 x61); have z80 : World.cell? (World.alloc (World.alloc w5 (.cells #[.int .i64 0, .slice none 0 0] 24)) (.cells #[.string ⟨#[97]⟩, .int .i64 4, .bool true, .string ⟨#[]⟩, .slice none 0 0] 48)) ⟨w4.heap.size, 0, none⟩ = some (.int .i64 5) := pw_cell_below L8 (box_cell hb5 (i := 0) rfl); have z81 : World.cell? (World.alloc (World.alloc w5 (.cells #[.int .i64 0, .slice none 0 0] 24)) (.cells #[.string ⟨#[97]⟩, .int .i64 4, .bool true, .string ⟨#[]⟩, .slice none 0 0] 48)) ⟨w4.heap.size, 1, none⟩ = some (.slice A4 3 c4) := pw_cell_below L8 (box_cell hb5 (i := 1) rfl); have K28 := Lib.hid (bt (bt K26.out hb5) L8); have K18 := Lib.hid (bt (bt K16.out hb5) L8); have K48 := Lib.hid (bt (box_below hb5) L8))
    | (go_at_call 13; with_reducible refine (same_d A2 (some ⟨w5.heap.size + 1, 0, none⟩) c2 1 _ (Kd.C_below HC2.out K28.out) hc2 U8.out (Nat.le_refl _)).mono ?_; rintro e w6 ⟨rfl, hb6⟩; have y90 : World.cell? w6 ⟨w2.heap.size, 0, none⟩ = some (.int .i64 3) := pw_cell_below hb6 y80; have y91 : World.cell? w6 ⟨w2.heap.size, 1, none⟩ = some (.int .i64 5) := pw_cell_below hb6 y81; have y92 : World.cell? w6 ⟨w2.heap.size, 2, none⟩ = some (.slice A2 1 c2) := pw_cell_below hb6 y82; have x90 : World.cell? w6 ⟨w1.heap.size, 0, none⟩ = some (.int .i64 5) := pw_cell_below hb6 x80; have x91 : World.cell? w6 ⟨w1.heap.size, 1, none⟩ = some (.slice A1 3 c1) := pw_cell_below hb6 x81; have z90 : World.cell? w6 ⟨w4.heap.size, 0, none⟩ = some (.int .i64 5) := pw_cell_below hb6 z80; have z91 : World.cell? w6 ⟨w4.heap.size, 1, none⟩ = some (.slice A4 3 c4) := pw_cell_below hb6 z81; have K29 := Lib.hid (bt K28.out hb6); have K19 := Lib.hid (bt K18.out hb6); have K49 := Lib.hid (bt K48.out hb6))
    | (go_at_call 18; with_reducible refine (same_v A4 A1 c4 c1 _ (Kd.C_below HC4.out K49.out) hc4 (Kd.C_below HC1.out K19.out) hc1).mono ?_; rintro e w7 ⟨rfl, hb7⟩; have ya0 : World.cell? w7 ⟨w2.heap.size, 0, none⟩ = some (.int .i64 3) := pw_cell_below hb7 y90; have ya1 : World.cell? w7 ⟨w2.heap.size, 1, none⟩ = some (.int .i64 5) := pw_cell_below hb7 y91; have ya2 : World.cell? w7 ⟨w2.heap.size, 2, none⟩ = some (.slice A2 1 c2) := pw_cell_below hb7 y92; have xa0 : World.cell? w7 ⟨w1.heap.size, 0, none⟩ = some (.int .i64 5) := pw_cell_below hb7 x90; have xa1 : World.cell? w7 ⟨w1.heap.size, 1, none⟩ = some (.slice A1 3 c1) := pw_cell_below hb7 x91; have K2a := Lib.hid (bt K29.out hb7); have K1a := Lib.hid (bt K19.out hb7))
    | (go_at_call 15; with_reducible refine (right_ex1 A2 c2 _ (Kd.C_below HC2.out K2a.out) hc2).mono ?_; rintro e w8 ⟨rfl, hb8⟩; have xb0 : World.cell? w8 ⟨w1.heap.size, 0, none⟩ = some (.int .i64 5) := pw_cell_below hb8 xa0; have xb1 : World.cell? w8 ⟨w1.heap.size, 1, none⟩ = some (.slice A1 3 c1) := pw_cell_below hb8 xa1; have K1b := Lib.hid (bt K1a.out hb8))
    | (go_at_call 15; with_reducible refine (right_ex2 A1 c1 _ (Kd.C_below HC1.out K1b.out) hc1).mono ?_; rintro e w9 ⟨rfl, hb9⟩; have KF := Lib.hid (hb1.trans ((bt K1b.out hb9).mono hb1.size))))
  go_ret
  exact ⟨rfl, KF.out⟩
end Go.Proofs.Ytbhdehkdnenigaa

set_option linter.unusedVariables false
set_option linter.unusedSimpArgs false
namespace Go.Proofs.Ytbhdehkdnenigaa
open Go.RowKit Go.Proofs.YtbhdehkdnenigaaW.PrintWords
theorem nil_C (w : World) : kVn.C w none 0 [] := ⟨rfl, by decide, fun h => absurd h (by decide)⟩
theorem copy_C (l : List Vn) (nx : Int) (A : Option Addr) (c : Nat) (w : World) (hC : kVn.C w A l.length l) (hl : l.length ≤ c) (HR : Room l) :
    Calls Try.prog 10 #[.agg #[.int .i64 nx, .slice A l.length c]] w fun e w' => ∃ B d, e = .returned (.agg #[.int .i64 nx, .slice B l.length d]) ∧ l.length ≤ d ∧ kVn.C w' B l.length l ∧ Below w.heap.size w w' := by
  refine (copy_any l nx A c w hC hl HR).mono ?_
  rintro e w' ⟨v, rfl, hv, hb⟩
  obtain ⟨B, d, rfl, hd, hD⟩ := Kd.R_reads hv
  exact ⟨B, d, rfl, hd, hD, hb⟩
end Go.Proofs.Ytbhdehkdnenigaa

set_option linter.unusedVariables false
set_option linter.unusedSimpArgs false
namespace Go.Proofs.Ytbhdehkdnenigaa
open Go.RowKit Go.Proofs.YtbhdehkdnenigaaW.PrintWords

theorem room_filter {l : List Vn} (h : Room l) (p : Vn → Bool) : Room (l.filter p) :=
  ⟨Nat.le_trans (Nat.mul_le_mul_right _ (List.length_filter_le _ _)) h.len, fun x hx => h.pairs x (List.mem_filter.1 hx).1, fun x hx => h.fits x (List.mem_filter.1 hx).1⟩
theorem below_C (l : List Vn) (nx m : Int) (A : Option Addr) (c : Nat) (w : World) (hC : kVn.C w A l.length l) (hl : l.length ≤ c) (HR : Room l) :
    Calls Try.prog 20 #[.agg #[.int .i64 nx, .slice A l.length c], .int .i64 m] w fun e w' => ∃ B d, e = .returned (.agg #[.int .i64 m, .slice B (lower l m).length d]) ∧ (lower l m).length ≤ d ∧ kVn.C w' B (lower l m).length (lower l m) ∧ Below w.heap.size w w' := by
  refine (below_any l nx m A c w hC hl HR).mono ?_
  rintro e w' ⟨v, rfl, hv, hb⟩
  obtain ⟨B, d, rfl, hd, hD⟩ := Kd.R_reads hv
  exact ⟨B, d, rfl, hd, hD, hb⟩
/-- Apply of what is below a number and of what is from it on -/
theorem apply_R (l m k : List Vn) (nx nx2 : Int) (A B : Option Addr) (c d : Nat) (w : World) (hC : kVn.C w A l.length l) (hl : l.length ≤ c) (HR : Room l) (hD : kVn.C w B m.length m) (hm : m.length ≤ d) (HQ : Room m) (h2 : l.length + m.length ≤ 256) (h3 : wrap64 (wrap64 (bsize l) + wrap64 (bsize m)) ≤ 65536)
    (hk : mrg (since l (-9223372036854775808)) (since m (-9223372036854775808)) = k) :
    Calls Try.prog 16 #[.agg #[.int .i64 nx, .slice A l.length c], .agg #[.int .i64 nx, .int .i64 nx2, .slice B m.length d]] w fun e w' => ∃ G g, e = .returned (.tuple #[.agg #[.int .i64 nx2, .slice G k.length g], .int .i64 0]) ∧ k.length ≤ g ∧ kVn.R 48 w' w.heap.size (fun _ => True) (.slice G k.length g) k ∧ Below w.heap.size w w' := by
  subst hk
  refine (apply_any l m nx nx nx2 A B c d w hC hl HR hD hm HQ rfl h2 h3).mono ?_
  rintro e w' ⟨v, rfl, hv, hb⟩
  obtain ⟨G, g, rfl, hg, _⟩ := Kd.R_reads hv
  exact ⟨G, g, rfl, hg, hv, hb⟩
theorem apply_no (l m : List Vn) (nx s nx2 : Int) (A B : Option Addr) (c d : Nat) (w : World) (h : s ≠ nx) :
    Calls Try.prog 16 #[.agg #[.int .i64 nx, .slice A l.length c], .agg #[.int .i64 s, .int .i64 nx2, .slice B m.length d]] w fun e w' => e = .returned (.tuple #[.agg #[.int .i64 0, .slice none 0 0], .int .i64 91]) ∧ Below w.heap.size w w' :=
  apply_marker l m nx s nx2 A B c d w h
theorem same_C (l : List Vn) (nx : Int) (A B : Option Addr) (c d : Nat) (w : World) (hC : kVn.C w A l.length l) (hc : l.length ≤ c) (hD : kVn.C w B l.length l) (hd : l.length ≤ d) :
    Calls Try.prog 18 #[.agg #[.int .i64 nx, .slice A l.length c], .agg #[.int .i64 nx, .slice B l.length d]] w fun e w' => e = .returned (.bool true) ∧ Below w.heap.size w w' := by
  refine (same_any l l nx nx A B c d w hC hD hc hd).mono ?_
  rintro e w' ⟨rfl, hb⟩
  exact ⟨by simp [sVns], hb⟩
theorem same_0 (w : World) :
    Calls Try.prog 18 #[.agg #[.int .i64 0, .slice none 0 0], .agg #[.int .i64 0, .slice none 0 0]] w fun e w' => e = .returned (.bool true) ∧ Below w.heap.size w w' := by
  refine (same_any [] [] 0 0 none none 0 0 w (nil_C w) (nil_C w) (Nat.le_refl _) (Nat.le_refl _)).mono ?_
  rintro e w' ⟨rfl, hb⟩
  exact ⟨by simp [sVns], hb⟩
theorem right_true (l : List Vn) (nx : Int) (A : Option Addr) (c : Nat) (w : World) (hC : kVn.C w A l.length l) (hl : l.length ≤ c) (HF : ∀ x ∈ l, x.Fits) (h : Rt l nx) :
    Calls Try.prog 12 #[.agg #[.int .i64 nx, .slice A l.length c]] w fun e w' => e = .returned (.bool true) ∧ Below w.heap.size w w' := by
  refine (refRight_any l nx A c w hC hl HF).mono ?_
  rintro e w' ⟨rfl, hb⟩
  exact ⟨by rw [(right_iff l nx).2 h], hb⟩
/-- a new variable's zero box -/
structure Zbox (w : World) (g : Nat) : Prop where
  c0 : w.cell? ⟨g, 0, none⟩ = some (.int .i64 0)
  c1 : w.cell? ⟨g, 1, none⟩ = some (.slice none 0 0)
  fr : ∀ j, w.frozen? ⟨g, j, none⟩ = false
  lt : g < w.heap.size
theorem zbox_new (w : World) : Zbox (w.alloc (.cells #[.int .i64 0, .slice none 0 0] 24)) w.heap.size :=
  ⟨by simp [go_sem], by simp [go_sem], fun j => by simp [go_sem], by simp [go_sem]⟩
theorem Zbox.below {w w1 : World} {g : Nat} (h : Zbox w g) (hb : Below w.heap.size w w1) : Zbox w1 g :=
  ⟨pw_cell_below hb h.c0, pw_cell_below hb h.c1, fun j => frozen_below hb (show g < w.heap.size from h.lt) (h.fr j), Nat.lt_of_lt_of_le h.lt hb.size⟩
theorem r_low {w : World} {b b0 g : Nat} {v : Value} {xs : List Vn} (h : kVn.R 48 w b (fun _ => True) v xs) (hb : b0 ≤ b) (hg : g < b) : kVn.R 48 w b0 (fun k => k ≠ g) v xs :=
  Kd.R_lower (Kd.R_mono (Kd.R_bound h) (fun k hk => by have := hk.2.1; omega)) hb
theorem r_new {w : World} {b b0 : Nat} {v : Value} {xs : List Vn} (h : kVn.R 48 w b (fun _ => True) v xs) (hb : b0 ≤ b) (o : Obj) : kVn.R 48 (w.alloc o) b0 (fun k => k ≠ w.heap.size) v xs :=
  Kd.R_lower (Kd.R_below (Kd.R_mono (Kd.R_bound h) (fun k hk => by have := hk.2.2.1; omega)) (below1 w o)) hb
theorem stored {W w : World} {g c : Nat} {A : Option Addr} {xs : List Vn} (z : Int) (hb : Below W.heap.size W w) (hz : Zbox w g) (hg : W.heap.size ≤ g) (h : kVn.R 48 w W.heap.size (fun k => k ≠ g) (.slice A xs.length c) xs) :
    Below W.heap.size W ((w.setCell ⟨g, 0, none⟩ (.int .i64 z)).setCell ⟨g, 1, none⟩ (.slice A xs.length c)) ∧ ((w.setCell ⟨g, 0, none⟩ (.int .i64 z)).setCell ⟨g, 1, none⟩ (.slice A xs.length c)).cell? ⟨g, 0, none⟩ = some (.int .i64 z) ∧
      ((w.setCell ⟨g, 0, none⟩ (.int .i64 z)).setCell ⟨g, 1, none⟩ (.slice A xs.length c)).cell? ⟨g, 1, none⟩ = some (.slice A xs.length c) ∧ xs.length ≤ c ∧ kVn.C ((w.setCell ⟨g, 0, none⟩ (.int .i64 z)).setCell ⟨g, 1, none⟩ (.slice A xs.length c)) A xs.length xs := by
  have c0 := hz.c0
  have c1 := hz.c1
  have fr := hz.fr
  have h2 := Kd.R_far (p := ⟨g, 1, none⟩) (Kd.R_far (p := ⟨g, 0, none⟩) h (fun k hk => hk) (.int .i64 z)) (fun k hk => hk) (.slice A xs.length c)
  obtain ⟨A', c', e, h3, h4⟩ := Kd.R_reads h2
  cases e
  exact ⟨(hb.setCell hg _).setCell hg _, by simp [go_sem, c0, c1, fr], by simp [go_sem, c0, c1, fr], h3, h4⟩
theorem stored0 {W w : World} {g : Nat} (hb : Below W.heap.size W w) (hz : Zbox w g) (hg : W.heap.size ≤ g) :
    Below W.heap.size W ((w.setCell ⟨g, 0, none⟩ (.int .i64 0)).setCell ⟨g, 1, none⟩ (.slice none 0 0)) ∧ ((w.setCell ⟨g, 0, none⟩ (.int .i64 0)).setCell ⟨g, 1, none⟩ (.slice none 0 0)).cell? ⟨g, 0, none⟩ = some (.int .i64 0) ∧
      ((w.setCell ⟨g, 0, none⟩ (.int .i64 0)).setCell ⟨g, 1, none⟩ (.slice none 0 0)).cell? ⟨g, 1, none⟩ = some (.slice none 0 0) := by
  have c0 := hz.c0
  have c1 := hz.c1
  have fr := hz.fr
  exact ⟨(hb.setCell hg _).setCell hg _, by simp [go_sem, c0, c1, fr], by simp [go_sem, c0, c1, fr]⟩
end Go.Proofs.Ytbhdehkdnenigaa

set_option linter.unusedVariables false
set_option linter.unusedSimpArgs false
namespace Go.Proofs.Ytbhdehkdnenigaa
open Go.RowKit Go.Proofs.YtbhdehkdnenigaaW.PrintWords

theorem mrg_ind {P : List Vn → List Vn → List Vn → Prop} (h0 : ∀ m, P [] m m) (h1 : ∀ l, P l [] l) (h2 : ∀ x l y m, va y x = true → P (x :: l) m (mrg (x :: l) m) → P (x :: l) (y :: m) (y :: mrg (x :: l) m))
    (h3 : ∀ x l y m, va y x = false → P l (y :: m) (mrg l (y :: m)) → P (x :: l) (y :: m) (x :: mrg l (y :: m))) : ∀ n l m, l.length + m.length ≤ n → P l m (mrg l m) := by
  intro n
  induction n with
  | zero =>
    intro l m h
    obtain rfl : l = [] := List.eq_nil_of_length_eq_zero (by omega)
    obtain rfl : m = [] := List.eq_nil_of_length_eq_zero (by omega)
    rw [mrg_end (.inl rfl)]
    exact h0 []
  | succ n ih =>
    intro l m h
    match l, m with
    | [], m => rw [mrg_end (.inl rfl)]; exact h0 m
    | x :: l, [] => rw [mrg_end (.inr rfl), List.append_nil]; exact h1 _
    | x :: l, y :: m =>
      simp only [List.length_cons] at h
      rw [mrg]
      by_cases q : ordE y x < 0
      · rw [if_pos q]
        exact h2 x l y m ((ord_va y x).1 q) (ih _ _ (by simp only [List.length_cons]; omega))
      · rw [if_neg q]
        refine h3 x l y m ?_ (ih _ _ (by simp only [List.length_cons]; omega))
        rw [Bool.eq_false_iff]
        exact fun e => q ((ord_va y x).2 e)
theorem mem_mrg (l m : List Vn) (z : Vn) : z ∈ mrg l m ↔ z ∈ l ∨ z ∈ m := by
  refine mrg_ind (P := fun l m r => z ∈ r ↔ z ∈ l ∨ z ∈ m) (fun m => by simp) (fun l => by simp) (fun x l y m _ h => ?_) (fun x l y m _ h => ?_) _ l m (Nat.le_refl _)
  · rw [List.mem_cons, h, List.mem_cons, List.mem_cons]
    constructor
    · rintro (h | (h | h) | h) <;> simp [h]
    · rintro ((h | h) | h | h) <;> simp [h]
  · rw [List.mem_cons, h, List.mem_cons, List.mem_cons]
    constructor
    · rintro (h | h | h | h) <;> simp [h]
    · rintro ((h | h) | h | h) <;> simp [h]
theorem len_mrg (l m : List Vn) : (mrg l m).length = l.length + m.length := by
  refine mrg_ind (P := fun l m r => r.length = l.length + m.length) (fun m => by simp) (fun l => by simp) (fun x l y m _ h => ?_) (fun x l y m _ h => ?_) _ l m (Nat.le_refl _)
  · simp only [List.length_cons] at h ⊢; omega
  · simp only [List.length_cons] at h ⊢; omega
theorem bsize_mrg (l m : List Vn) : bsize (mrg l m) = bsize l + bsize m := by
  refine mrg_ind (P := fun l m r => bsize r = bsize l + bsize m) (fun m => by simp [bsize]) (fun l => by simp [bsize]) (fun x l y m _ h => ?_) (fun x l y m _ h => ?_) _ l m (Nat.le_refl _)
  · simp only [bsize, List.map_cons, List.sum_cons] at h ⊢; omega
  · simp only [bsize, List.map_cons, List.sum_cons] at h ⊢; omega
theorem filter_mrg {l m : List Vn} {p : Vn → Bool} (hl : ∀ x ∈ l, p x = true) (hm : ∀ x ∈ m, p x = false) : (mrg l m).filter p = l := by
  revert hl hm
  refine mrg_ind (P := fun l m r => (∀ x ∈ l, p x = true) → (∀ x ∈ m, p x = false) → r.filter p = l) (fun m _ hm => ?_) (fun l hl _ => ?_) (fun x l y m _ h hl hm => ?_) (fun x l y m _ h hl hm => ?_) _ l m (Nat.le_refl _)
  · rw [List.filter_eq_nil_iff]; exact fun x hx => by simp [hm x hx]
  · rw [List.filter_eq_self]; exact hl
  · rw [List.filter_cons, hm y List.mem_cons_self]
    exact h hl (fun z hz => hm z (List.mem_cons_of_mem _ hz))
  · rw [List.filter_cons, hl x List.mem_cons_self, if_pos rfl, h (fun z hz => hl z (List.mem_cons_of_mem _ hz)) hm]
theorem va_total {x y : Vn} (h : va y x = false) (hn : x.seq ≠ y.seq) : va x y = true := by
  rw [Bool.eq_false_iff] at h
  rw [va_iff]
  rcases bl_tri x.key.toList y.key.toList with e | e | e
  · exact .inl e
  · refine .inr ⟨e, ?_⟩
    rcases Int.lt_trichotomy x.seq y.seq with q | q | q
    · exact q
    · exact absurd q hn
    · exact absurd ((va_iff y x).2 (.inr ⟨e.symm, q⟩)) h
  · exact absurd ((va_iff y x).2 (.inl e)) h
theorem srt_mrg {l m : List Vn} (hl : Srt l) (hm : Srt m) (hd : ∀ x ∈ l, ∀ y ∈ m, x.seq ≠ y.seq) : Srt (mrg l m) := by
  revert hl hm hd
  refine mrg_ind (P := fun l m r => Srt l → Srt m → (∀ x ∈ l, ∀ y ∈ m, x.seq ≠ y.seq) → (∀ z, z ∈ r ↔ z ∈ l ∨ z ∈ m) → Srt r) (fun m _ hm _ _ => hm) (fun l hl _ _ _ => hl) (fun x l y m hv h hl hm hd _ => ?_) (fun x l y m hv h hl hm hd _ => ?_) _ l m (Nat.le_refl _) |> fun h hl hm hd => h hl hm hd (mem_mrg l m)
  · unfold Srt at hl hm ⊢
    have hm' := List.pairwise_cons.1 hm
    have hl' := List.pairwise_cons.1 hl
    have hd' : ∀ a ∈ x :: l, ∀ b ∈ m, a.seq ≠ b.seq := fun a ha b hb => hd a ha b (List.mem_cons_of_mem _ hb)
    refine List.pairwise_cons.2 ⟨fun z hz => ?_, h hl hm'.2 hd' (mem_mrg _ _)⟩
    rcases (mem_mrg _ _ z).1 hz with hz | hz
    · refine ⟨?_, (hd z hz y List.mem_cons_self).symm⟩
      rcases List.mem_cons.1 hz with rfl | hz
      · exact hv
      · exact va_trans hv (hl'.1 z hz).1
    · exact hm'.1 z hz
  · unfold Srt at hl hm ⊢
    have hm' := List.pairwise_cons.1 hm
    have hl' := List.pairwise_cons.1 hl
    have hd' : ∀ a ∈ l, ∀ b ∈ y :: m, a.seq ≠ b.seq := fun a ha b hb => hd a (List.mem_cons_of_mem _ ha) b hb
    have hxy := va_total hv (hd x List.mem_cons_self y List.mem_cons_self)
    refine List.pairwise_cons.2 ⟨fun z hz => ?_, h hl'.2 hm hd' (mem_mrg _ _)⟩
    rcases (mem_mrg _ _ z).1 hz with hz | hz
    · exact hl'.1 z hz
    · refine ⟨?_, hd x List.mem_cons_self z hz⟩
      rcases List.mem_cons.1 hz with rfl | hz
      · exact hxy
      · exact va_trans hxy (hm'.1 z hz).1
structure Dt (k : List Vn) (nx s : Int) : Prop where
  rt : Rt k nx
  s1 : 1 ≤ s
  s2 : s ≤ nx
  late : ∀ x ∈ k, s ≤ x.seq
theorem rightD_iff (k : List Vn) (nx s : Int) : rightD k nx s = true ↔ Dt k nx s := by
  simp only [rightD, Bool.and_eq_true, decide_eq_true_eq, List.all_eq_true, right_iff]
  exact ⟨fun h => ⟨h.1.1.1, h.1.1.2, h.1.2, h.2⟩, fun h => ⟨⟨⟨h.rt, h.s1⟩, h.s2⟩, h.late⟩⟩
theorem lay_right {l k : List Vn} {s nx : Int} (h : Rt l s) (d : Dt k nx s) (hl : l.length + k.length ≤ 256) (hb : wrap64 (wrap64 (bsize l) + wrap64 (bsize k)) ≤ 65536) : Rt (mrg l k) nx := by
  have b1 := h.bytes
  have b2 := d.rt.bytes
  rw [w64_nat (by omega), w64_nat (by omega), show ((bsize l : Nat) : Int) + ((bsize k : Nat) : Int) = ((bsize l + bsize k : Nat) : Int) by omega, w64_nat (by omega)] at hb
  refine ⟨d.rt.lo, d.rt.hi, by rw [len_mrg]; exact hl, fun x hx => ?_, srt_mrg h.srt d.rt.srt (fun x hx y hy e => ?_), by rw [bsize_mrg]; omega⟩
  · rcases (mem_mrg _ _ x).1 hx with hx | hx
    · have := h.all x hx
      have := d.s2
      exact ⟨(h.all x hx).1, (h.all x hx).2.1, by omega⟩
    · exact d.rt.all x hx
  · have := (h.all x hx).2.2
    have := d.late y hy
    omega
theorem lay_lower {l k : List Vn} {s nx : Int} (h : Rt l s) (d : Dt k nx s) : lower (mrg l k) s = l :=
  filter_mrg (fun x hx => decide_eq_true (h.all x hx).2.2) (fun x hx => decide_eq_false (by have := d.late x hx; omega))
theorem lay_in (l k : List Vn) : inV k (mrg l k) = true := by
  unfold inV
  rw [List.all_eq_true]
  intro x hx
  rw [List.any_eq_true]
  exact ⟨x, (mem_mrg _ _ x).2 (.inr hx), by simp [sVn]⟩
theorem lay_all {l k : List Vn} {n1 n2 : Int} (h : Rt l n1) (d : Rt k n2) : mrg (since l (-9223372036854775808)) (since k (-9223372036854775808)) = mrg l k := by
  rw [since_all (fun x hx => (h.all x hx).2.1), since_all (fun x hx => (d.all x hx).2.1)]
end Go.Proofs.Ytbhdehkdnenigaa

set_option linter.unusedVariables false
set_option linter.unusedSimpArgs false
namespace Go.Proofs.Ytbhdehkdnenigaa
open Go.RowKit Go.Proofs.YtbhdehkdnenigaaW.PrintWords Go.Proofs.YtbhdehkdnenigaaW.PrintLast

def fL.T7 : Bool × List (List Nat × List Nat) := (true, [([], []), ([0], [0]), ([], []), ([2], [2]), ([], []), ([4], [4]), ([5, 1], [5]), ([3, 6], [3, 6]), ([1, 7, 6], [1, 7]), ([8], [8]), ([9], [9]), ([9], [9]), ([], []), ([12, 10, 8, 0, 1, 2, 3, 4, 5, 6, 7, 8, 9, 10, 12], [10, 12]), ([11, 13, 0, 1, 2, 3, 4, 5, 6, 7, 8, 9, 10, 11, 12, 13], [11])])
def fL.B7 : List Nat := [0, 1, 0, 4, 0, 16, 51, 127, 255, 511, 1023, 1023, 0, 6143, 16383]
theorem fL.tab7 : rtab .any (opsOf Try.f6 7) = fL.T7 := by kernel_rfl
theorem fL.bits7 : waitsOk fL.T7.2 fL.B7 = true := by kernel_rfl
def fL.T12 : Bool × List (List Nat × List Nat) := (true, [([], []), ([0], [0]), ([], []), ([2], [2]), ([3, 1], [3]), ([1, 4], [1, 4]), ([5], [5])])
def fL.B12 : List Nat := [0, 1, 0, 4, 15, 31, 63]
theorem fL.tab12 : rtab .any (opsOf Try.f6 12) = fL.T12 := by kernel_rfl
theorem fL.bits12 : waitsOk fL.T12.2 fL.B12 = true := by kernel_rfl
def fL.T16 : Bool × List (List Nat × List Nat) := (true, [([], []), ([], []), ([1], [1]), ([0, 2], [0, 2]), ([], []), ([3, 4, 3], [3, 4]), ([5, 5], [5]), ([6], [6]), ([7, 6], [6, 7]), ([6], [6]), ([8, 9, 6, 6], [6, 8, 9]), ([6, 10], [6, 10]), ([11, 10, 0, 1, 2, 3, 4, 5, 6, 7, 8, 9, 10, 11], [11])])
def fL.B16 : List Nat := [0, 0, 2, 7, 0, 31, 63, 127, 255, 127, 1023, 2047, 4095]
theorem fL.tab16 : rtab .any (opsOf Try.f6 16) = fL.T16 := by kernel_rfl
theorem fL.bits16 : waitsOk fL.T16.2 fL.B16 = true := by kernel_rfl
theorem right_is (l : List Vn) (nx : Int) (A : Option Addr) (c : Nat) (w : World) (hC : kVn.C w A l.length l) (hl : l.length ≤ c) (HF : ∀ x ∈ l, x.Fits) {r : Bool} (h : rightV l nx = r) :
    Calls Try.prog 12 #[.agg #[.int .i64 nx, .slice A l.length c]] w fun e w' => e = .returned (.bool r) ∧ Below w.heap.size w w' := by
  subst h
  exact refRight_any l nx A c w hC hl HF
theorem right9_is (l : List Vn) (nx s : Int) (A : Option Addr) (c : Nat) (w : World) (hC : kVn.C w A l.length l) (hl : l.length ≤ c) (HF : ∀ x ∈ l, x.Fits) {r : Bool} (h : rightD l nx s = r) :
    Calls Try.prog 14 #[.agg #[.int .i64 s, .int .i64 nx, .slice A l.length c]] w fun e w' => e = .returned (.bool r) ∧ Below w.heap.size w w' := by
  subst h
  exact right19_any l nx s A c w hC hl HF
theorem apply_cnt (l m : List Vn) (nx nx2 : Int) (A B : Option Addr) (c d : Nat) (w : World) (HR : Room l) (HQ : Room m) (h2 : ¬ l.length + m.length ≤ 256) :
    Calls Try.prog 16 #[.agg #[.int .i64 nx, .slice A l.length c], .agg #[.int .i64 nx, .int .i64 nx2, .slice B m.length d]] w fun e w' => e = .returned (.tuple #[.agg #[.int .i64 0, .slice none 0 0], .int .i64 75]) ∧ Below w.heap.size w w' :=
  apply_count l m nx nx nx2 A B c d w (by have := HR.len; omega) HR.len HQ.len rfl h2
theorem apply_byt (l m : List Vn) (nx nx2 : Int) (A B : Option Addr) (c d : Nat) (w : World) (hC : kVn.C w A l.length l) (hl : l.length ≤ c) (HR : Room l) (hD : kVn.C w B m.length m) (hm : m.length ≤ d) (HQ : Room m) (h2 : l.length + m.length ≤ 256) (h3 : ¬ wrap64 (wrap64 (bsize l) + wrap64 (bsize m)) ≤ 65536) :
    Calls Try.prog 16 #[.agg #[.int .i64 nx, .slice A l.length c], .agg #[.int .i64 nx, .int .i64 nx2, .slice B m.length d]] w fun e w' => e = .returned (.tuple #[.agg #[.int .i64 0, .slice none 0 0], .int .i64 76]) ∧ Below w.heap.size w w' :=
  apply_bytes l m nx nx nx2 A B c d w hC hl HR hD hm HQ rfl h2 h3
theorem room_mrg {l m : List Vn} (h : Room l) (g : Room m) (h2 : l.length + m.length ≤ 256) : Room (mrg l m) :=
  ⟨by rw [len_mrg]; omega, fun x hx => by rcases (mem_mrg _ _ x).1 hx with hx | hx; exact h.pairs x hx; exact g.pairs x hx, fun x hx => by rcases (mem_mrg _ _ x).1 hx with hx | hx; exact h.fits x hx; exact g.fits x hx⟩
theorem below_is (l k : List Vn) (nx m : Int) (A : Option Addr) (c : Nat) (w : World) (hC : kVn.C w A l.length l) (hl : l.length ≤ c) (HR : Room l) (h : lower l m = k) :
    Calls Try.prog 20 #[.agg #[.int .i64 nx, .slice A l.length c], .int .i64 m] w fun e w' => ∃ B d, e = .returned (.agg #[.int .i64 m, .slice B k.length d]) ∧ k.length ≤ d ∧ kVn.C w' B k.length k ∧ Below w.heap.size w w' := by
  subst h
  exact below_C l nx m A c w hC hl HR
theorem below_R (l : List Vn) (nx m : Int) (A : Option Addr) (c : Nat) (w : World) (hC : kVn.C w A l.length l) (hl : l.length ≤ c) (HR : Room l) :
    Calls Try.prog 20 #[.agg #[.int .i64 nx, .slice A l.length c], .int .i64 m] w fun e w' => ∃ B d, e = .returned (.agg #[.int .i64 m, .slice B (lower l m).length d]) ∧ (lower l m).length ≤ d ∧ kVn.R 48 w' w.heap.size (fun _ => True) (.slice B (lower l m).length d) (lower l m) ∧ Below w.heap.size w w' := by
  refine (below_any l nx m A c w hC hl HR).mono ?_
  rintro e w' ⟨v, rfl, hv, hb⟩
  obtain ⟨B, d, rfl, hd, hD⟩ := Kd.R_reads hv
  exact ⟨B, d, rfl, hd, hv, hb⟩
theorem inside_is (l m : List Vn) (a b : Int) (A B : Option Addr) (c d : Nat) (w : World) (hC : kVn.C w A l.length l) (hl : l.length ≤ c) (hD : kVn.C w B m.length m) (hm : m.length ≤ d) (h : inV l m = true) :
    Calls Try.prog 22 #[.agg #[.int .i64 a, .slice A l.length c], .agg #[.int .i64 b, .slice B m.length d]] w fun e w' => e = .returned (.bool true) ∧ Below w.heap.size w w' := by
  refine (inside_any l m a b A B c d w hC hl hD hm).mono ?_
  rintro e w' ⟨rfl, hb⟩
  exact ⟨by rw [h], hb⟩
theorem stored_over {w w2 : World} {g c b0 : Nat} {u0 u1 : Value} {A B : Option Addr} {xs : List Vn} {d e : Nat} (s n2 z : Int) (hb : Below g w w2) (x0 : w2.cell? ⟨g, 0, none⟩ = some u0) (x1 : w2.cell? ⟨g, 1, none⟩ = some u1)
    (y0 : w2.cell? ⟨g + 1, 0, none⟩ = some (.int .i64 s)) (y1 : w2.cell? ⟨g + 1, 1, none⟩ = some (.int .i64 n2)) (y2 : w2.cell? ⟨g + 1, 2, none⟩ = some (.slice B d e)) (fr : ∀ j, w2.frozen? ⟨g, j, none⟩ = false) (hg : g < b0) (h : kVn.R 48 w2 b0 (fun _ => True) (.slice A xs.length c) xs) :
    Below g w ((w2.setCell ⟨g, 0, none⟩ (.int .i64 z)).setCell ⟨g, 1, none⟩ (.slice A xs.length c)) ∧ ((w2.setCell ⟨g, 0, none⟩ (.int .i64 z)).setCell ⟨g, 1, none⟩ (.slice A xs.length c)).cell? ⟨g, 0, none⟩ = some (.int .i64 z) ∧
      ((w2.setCell ⟨g, 0, none⟩ (.int .i64 z)).setCell ⟨g, 1, none⟩ (.slice A xs.length c)).cell? ⟨g, 1, none⟩ = some (.slice A xs.length c) ∧ ((w2.setCell ⟨g, 0, none⟩ (.int .i64 z)).setCell ⟨g, 1, none⟩ (.slice A xs.length c)).cell? ⟨g + 1, 0, none⟩ = some (.int .i64 s) ∧
      ((w2.setCell ⟨g, 0, none⟩ (.int .i64 z)).setCell ⟨g, 1, none⟩ (.slice A xs.length c)).cell? ⟨g + 1, 1, none⟩ = some (.int .i64 n2) ∧ ((w2.setCell ⟨g, 0, none⟩ (.int .i64 z)).setCell ⟨g, 1, none⟩ (.slice A xs.length c)).cell? ⟨g + 1, 2, none⟩ = some (.slice B d e) ∧
      kVn.C ((w2.setCell ⟨g, 0, none⟩ (.int .i64 z)).setCell ⟨g, 1, none⟩ (.slice A xs.length c)) A xs.length xs := by
  have h1 : kVn.R 48 w2 b0 (fun k => k ≠ g) (.slice A xs.length c) xs := r_low h (Nat.le_refl _) hg
  have h2 := Kd.R_far (p := ⟨g, 1, none⟩) (Kd.R_far (p := ⟨g, 0, none⟩) h1 (fun k hk => hk) (.int .i64 z)) (fun k hk => hk) (.slice A xs.length c)
  obtain ⟨A', c', e', h3, h4⟩ := Kd.R_reads h2
  cases e'
  exact ⟨(hb.setCell (Nat.le_refl _) _).setCell (Nat.le_refl _) _, by simp [go_sem, x0, x1, fr], by simp [go_sem, x0, x1, fr], by simp [go_sem, y0, y1, y2, fr], by simp [go_sem, y0, y1, y2, fr], by simp [go_sem, y0, y1, y2, fr], h4⟩
end Go.Proofs.Ytbhdehkdnenigaa

/- Walk: bucket.Right, which keeps the numbers that it has seen in a map: the plain law of a right value.
Walks: the test of delta.Right, slices.IndexFunc and ContainsFunc of it.
Walk: delta.Apply.
The machine side of some functions of the law, as the kit's print wrote it for this claim: each function has the answers of a plain one.
Walks: the law's example, and its first line: the document's examples in short: it answers true.
Walk: the law's first line answers true.
Walk: the law DeltaSinces answers true.
Faces: Right of a value and SameVersion, told in the words that the kit's print uses for its own functions.
The document's Right of a delta, and 'each version stands in the other': what the walks of the kit's print compute is the plain law.
Walks: the values below a number, and a number in its bounds.
Plain laws of sorted lists of versions: right values, their parts, and what is merged.
Plain laws: a right delta laid on a right value.
Worlds and lists for DeltaApart: what the law holds, all of it, in one situation; versions laid bare.
Contracts for DeltaApart: what each call gives, with its range of blocks. -/
import Derived.Maps.OwnOps
import Derived.Maps.Views
import Derived.Test.YtbhdehkdnenigaaQD3
set_option linter.unusedVariables false
set_option linter.unusedSimpArgs false
namespace Go.Proofs.Ytbhdehkdnenigaa
open Go.RowKit Go.Proofs.YtbhdehkdnenigaaW.PrintWords Go.Proofs.YtbhdehkdnenigaaW.PrintLast Go.Maps
attribute [local go_sem] Vn.val
theorem lawI : Keyed Try.prog 2 := int_keyed Try.underlying2
theorem zeroI (w : World) : (zeroValue 3).run Try.prog w = .ok (.int .i64 0) w := by kernel_rfl
theorem own_below {w w1 : World} {B b n : Nat} {D : DataW Unit} {R : Value → Option (DataW Unit × List MemPlace)} {kt : TypeId} (h : w.ownsMap Try.prog kt R b n D) (hb : Below B w w1) (hl : b < B) : w1.ownsMap Try.prog kt R b n D := by
  obtain ⟨es, clock, h1, h2⟩ := h
  exact ⟨es, clock, (hb.block b hl).trans h1, h2⟩
/-- the map of the numbers seen: each of the first k once -/
def Seen (l : List Vn) (k : Nat) (D : DataW Unit) : Prop := IsMap D ∧ ∀ z : Int, D.atKey (.int .i64 z) (.lit (.int .i64 0)) = .lit (.int .i64 (if (l.take k).any (fun v => v.seq == z) then 1 else 0))
def GdTo (l : List Vn) (nx : Int) (k : Nat) : Prop := ∀ i, i < k → gd l nx i = true
theorem GdTo.all {l : List Vn} {nx : Int} (h : GdTo l nx l.length) : gds l nx = true := by
  simp only [gds, List.all_eq_true, List.mem_range]
  exact h
theorem gds_bad {l : List Vn} {nx : Int} {k : Nat} (h : k < l.length) (h1 : gd l nx k = false) : gds l nx = false := by
  rw [Bool.eq_false_iff]
  intro h2
  simp only [gds, List.all_eq_true, List.mem_range] at h2
  rw [h2 k h] at h1
  cases h1
theorem rightV_bad {l : List Vn} {nx : Int} {k : Nat} (h : k < l.length) (h1 : gd l nx k = false) : rightV l nx = false := by
  simp [rightV, gds_bad h h1]
theorem GdTo.succ {l : List Vn} {nx : Int} {k : Nat} (h : GdTo l nx k) (h1 : gd l nx k = true) : GdTo l nx (k + 1) := fun i hi => by
  rcases (show i < k ∨ i = k by omega) with h2 | rfl
  · exact h i h2
  · exact h1
theorem seen_zero (l : List Vn) : Seen l 0 (.map []) := ⟨⟨[], rfl⟩, fun z => by simp; rfl⟩
theorem any_take (l : List Vn) (z : Int) : ∀ k, k ≤ l.length → (l.take k).any (fun v => v.seq == z) = !((List.range k).all fun j => (rdV l j).seq != z) := by
  intro k
  induction k with
  | zero => intro _; simp
  | succ k ih =>
    intro hk
    rw [List.take_succ_eq_append_getElem (show k < l.length by omega), List.any_append, ih (by omega), List.range_succ, List.all_append, rdV_at]
    simp only [List.any_cons, List.any_nil, Bool.or_false, List.all_cons, List.all_nil, Bool.and_true, Bool.not_and]
    congr 1
    simp [bne]
theorem seen_at {l : List Vn} {k : Nat} {D : DataW Unit} (h : Seen l k D) (hk : k ≤ l.length) {c z : Int} (hz : z = (rdV l k).seq) (hc : D.atKey (.int .i64 z) (.lit (.int .i64 0)) = .lit (.int .i64 c)) : c = if apartTo l k k = true then 0 else 1 := by
  subst hz
  rw [h.2, any_take l _ k hk] at hc
  have : c = if (!((List.range k).all fun j => (rdV l j).seq != (rdV l k).seq)) = true then 1 else 0 := by
    injection hc with h1
    injection h1 with _ h2
    exact h2.symm
  rw [this]
  show _ = if apartTo l k k = true then (0 : Int) else 1
  unfold apartTo
  cases (List.range k).all fun j => (rdV l j).seq != (rdV l k).seq <;> rfl
theorem seen_put {D : DataW Unit} (h : IsMap D) {z c : Int} {d : DataW Unit} (hc : (D.put (.int .i64 z) d).atKey (.int .i64 z) (.lit (.int .i64 0)) = .lit (.int .i64 c)) : d = .lit (.int .i64 c) := by
  rw [atKey_put_same h (by trivial)] at hc
  exact hc
theorem seen_succ {l : List Vn} {k : Nat} {D : DataW Unit} (h : Seen l k D) (hk : k < l.length) {z : Int} (hz : z = (rdV l k).seq) : Seen l (k + 1) (D.put (.int .i64 z) (.lit (.int .i64 1))) := by
  subst hz
  refine ⟨by obtain ⟨es, rfl⟩ := h.1; exact ⟨_, rfl⟩, fun z => ?_⟩
  rw [List.take_succ_eq_append_getElem hk, List.any_append, rdV_at]
  by_cases e : z = (rdV l k).seq
  · subst e
    rw [atKey_put_same h.1 (by trivial)]
    simp
  · rw [atKey_put_other (by intro h2; injection h2 with _ h3; exact e h3), h.2]
    have : ((rdV l k).seq == z) = false := by simpa using fun h3 => e h3.symm
    simp [this]
theorem seen_two {D : DataW Unit} (h : IsMap D) {z c m : Int} (hc : (D.put (.int .i64 z) (.lit (.int .i64 m))).atKey (.int .i64 z) (.lit (.int .i64 0)) = .lit (.int .i64 c)) : c = m := by
  have := seen_put h hc
  injection this with h1
  injection h1 with _ h2
  exact h2.symm
theorem wf_seq {z nx : Int} (h1 : ¬ z < 1) (h2 : ¬ nx ≤ z) (h3 : nx ≤ 1099511627777) : (Lit.int .i64 z).wf = true := by
  simp only [Lit.wf, IntKind.min, IntKind.max, IntKind.signed, IntKind.bits, Bool.and_eq_true, decide_eq_true_eq, if_true]
  omega
theorem by_ver {r : Int} {b : Bool} (h : (r == 0) = b) : (r != 0) = !b := by rw [bne, h]
theorem gd_no {l : List Vn} {nx : Int} {k : Nat} {x : Vn} (hx : rdV l k = x) (h : wel x = false ∨ x.seq < 1 ∨ nx ≤ x.seq ∨ (k ≠ 0 ∧ va (rdV l (k - 1)) x = false) ∨ apartTo l k k = false) : gd l nx k = false := by
  subst hx
  unfold gd
  rcases h with h | h | h | ⟨h0, h⟩ | h
  · rw [h]; rfl
  · rw [decide_eq_false (show ¬ 1 ≤ (rdV l k).seq by omega)]; simp
  · rw [decide_eq_false (show ¬ (rdV l k).seq < nx by omega)]; simp
  · rw [h, show (k == 0) = false by simpa using h0]; simp
  · rw [h]; simp
theorem gd_yes {l : List Vn} {nx : Int} {k : Nat} {x : Vn} (hx : rdV l k = x) (h1 : wel x = true) (h2 : ¬ x.seq < 1) (h3 : ¬ nx ≤ x.seq) (h4 : k = 0 ∨ va (rdV l (k - 1)) x = true) (h5 : apartTo l k k = true) : gd l nx k = true := by
  subst hx
  unfold gd
  rw [h1, h5, decide_eq_true (show 1 ≤ (rdV l k).seq by omega), decide_eq_true (show (rdV l k).seq < nx by omega)]
  rcases h4 with h | h
  · simp [h]
  · simp [h]
def bR.T7 : Bool × List (List Nat × List Nat) := (true, [([], []), ([0], [0]), ([1], [1]), ([2], [2]), ([3], [3]), ([4, 3], [3, 4]), ([3], [3]), ([6, 3], [3, 6]), ([5, 7, 3], [3, 5, 7]), ([3, 8], [3, 8]), ([9, 3], [9]), ([10], [10]), ([11, 10, 10], [10, 11]), ([12, 10], [10, 12]), ([10, 13], [10, 13]), ([14, 12], [14]), ([15], [15]), ([16, 15], [15, 16]), ([17, 15, 15], [15, 17]), ([18], [18]), ([19, 18], [18, 19]), ([18], [18]), ([21, 18], [18, 21]), ([20, 22, 18], [18, 20, 22]), ([23, 18], [18, 23]), ([18], [18]), ([24, 25, 18, 18], [18, 24, 25]), ([26, 18], [18, 26]), ([18, 27, 15], [15, 18, 27]), ([15, 28], [15, 28])])
def bR.B7 : List Nat := [0, 1, 3, 7, 15, 31, 15, 79, 255, 511, 1023, 2047, 4095, 8191, 16383, 32767, 65535, 131071, 262143, 524287, 1048575, 524287, 2621439, 8388607, 16777215, 524287, 67108863, 134217727, 268435455, 536870911]
theorem bR.tab7 : rtab .any (opsOf Try.f33 7) = bR.T7 := by kernel_rfl
theorem bR.bits7 : waitsOk bR.T7.2 bR.B7 = true := by kernel_rfl
theorem elem_below {w w1 : World} {a : Addr} {l : List Vn} {j : Nat} (h : ∃ ad A4 c4, some a = some ad ∧ w.cell? (ad.add (j * 5)) = some (.string (rdV l j).key) ∧ w.cell? ⟨(ad.add (j * 5)).block, (ad.add (j * 5)).off + 1, none⟩ = some (.int .i64 (rdV l j).seq) ∧ w.cell? ⟨(ad.add (j * 5)).block, (ad.add (j * 5)).off + 2, none⟩ = some (.bool (rdV l j).gone) ∧ w.cell? ⟨(ad.add (j * 5)).block, (ad.add (j * 5)).off + 3, none⟩ = some (.string (rdV l j).data) ∧ w.cell? ⟨(ad.add (j * 5)).block, (ad.add (j * 5)).off + 4, none⟩ = some (.slice A4 (rdV l j).pairs.length c4) ∧ (rdV l j).pairs.length ≤ c4 ∧ kPr.C w A4 (rdV l j).pairs.length (rdV l j).pairs) (hb : Below w.heap.size w w1) :
    ∃ B4 d4, w1.cell? (a.add (j * 5)) = some (.string (rdV l j).key) ∧ w1.cell? ⟨(a.add (j * 5)).block, (a.add (j * 5)).off + 1, none⟩ = some (.int .i64 (rdV l j).seq) ∧ w1.cell? ⟨(a.add (j * 5)).block, (a.add (j * 5)).off + 2, none⟩ = some (.bool (rdV l j).gone) ∧ w1.cell? ⟨(a.add (j * 5)).block, (a.add (j * 5)).off + 3, none⟩ = some (.string (rdV l j).data) ∧ w1.cell? ⟨(a.add (j * 5)).block, (a.add (j * 5)).off + 4, none⟩ = some (.slice B4 (rdV l j).pairs.length d4) := by
  obtain ⟨ad, A4, c4, e, h1, h2, h3, h4, h5, _, _⟩ := h
  cases e
  exact ⟨A4, c4, pw_cell_below hb h1, pw_cell_below hb h2, pw_cell_below hb h3, pw_cell_below hb h4, pw_cell_below hb h5⟩
set_option maxRecDepth 100000 in
set_option maxHeartbeats 4000000 in
theorem bRight_any (l : List Vn) (nx : Int) (A : Option Addr) (c : Nat) (w : World) (hC : kVn.C w A l.length l) (hl : l.length ≤ c) (HF : ∀ x ∈ l, x.Fits) :
    Calls Try.prog 33 #[.agg #[.int .i64 nx, .slice A l.length c]] w fun e w' => e = .returned (.bool (rightV l nx)) ∧ Below w.heap.size w w' := by
  have HC := Lib.hid hC
  have HBs := fun w' (h : Below w.heap.size w w') => Lib.hid (bytes_any l nx A c w' (Kd.C_below hC h) hl HF)
  have hml := hC.2.1
  clear hC
  have hmm := @run_makeMap Try.prog
  by_cases n1 : 1 ≤ nx ∧ nx ≤ 1099511627777 ∧ l.length ≤ 256
  · obtain ⟨n1, n2, n3⟩ := n1
    have t1 : decide (nx < 1) = false := by simp; omega
    have t2 : decide (1099511627777 < nx) = false := by simp; omega
    have t3 : decide ((256 : Int) < (l.length : Int)) = false := by simp; omega
    by_cases n4 : wrap64 (bsize l) ≤ 65536
    · have t4 : decide ((65536 : Int) < wrap64 (bsize l)) = false := by simp; omega
      go_enter Try.func33, Try.ntmps33
      go_wp2_with (first | (go_at_call 35; refine (HBs _ (below1 _ _)).out.mono ?_; rintro e wm ⟨rfl, hb2⟩; have hb3 := hb2.alloc hb2.size (.map #[] 0); have m0 := box_cell hb3 (i := 0) rfl; have m1 := box_cell hb3 (i := 1) rfl; have m01 : wm.cell? ⟨w.heap.size, 0, none⟩ = some (.int .i64 nx) := box_cell hb2 (i := 0) rfl; have m11 : wm.cell? ⟨w.heap.size, 1, none⟩ = some (.slice A l.length c) := box_cell hb2 (i := 1) rfl; have hbw := box_below hb2; have hww := hb2.size; rw [alloc_size] at hww))
      go_loopw [29] (fun i wr => ∃ (k : Nat) (D : DataW Unit), k ≤ l.length ∧ i = .int .i64 k ∧ Hid (GdTo l nx k) ∧ Hid (Seen l k D) ∧ wr.ownsMap Try.prog 2 (plainElem Try.prog 3) wm.heap.size k D ∧ Below wm.heap.size wm wr ∧ wm.heap.size + 1 ≤ wr.heap.size) (fun i _ => l.length - (intOf i).toNat)
      case atStart => exact ⟨0, .map [], Nat.zero_le _, rfl, fun i hi => absurd hi (Nat.not_lt_zero _), seen_zero l, World.ownsMap_made _ _ _ _, (Below.refl _ _).alloc (Nat.le_refl _) _, by simp [go_sem]⟩
      case round =>
        obtain ⟨k, D, hk, rfl, HG, HS, hown, hbr, hsz⟩ := hrel
        have N4 := Lib.hid n4
        clear n4 t1 t2 t3 t4
        have HCw := Kd.C_below HC.out (hbw.trans (hbr.mono hbw.size))
        by_cases hlt : k < l.length
        · obtain ⟨ad, A4, c4, rfl, h1, h2, h3, h4, h5, h6, h7⟩ := kVn_rd HCw k hlt
          have hX := HF _ (rdV_mem hlt)
          have HP := fun (hk0 : k ≠ 0) => Lib.hid (kVn_rd HCw (k - 1) (by omega))
          have r0 : wr.cell? ⟨w.heap.size, 0, none⟩ = some (.int .i64 nx) := (hbr.cell (p := ⟨w.heap.size, 0, none⟩) (by exact hww)).trans m01
          have r1 : wr.cell? ⟨w.heap.size, 1, none⟩ = some (.slice (some ad) l.length c) := (hbr.cell (p := ⟨w.heap.size, 1, none⟩) (by exact hww)).trans m11
          have hxx : ∃ x, rdV l k = x := ⟨_, rfl⟩
          obtain ⟨x, hx⟩ := hxx
          rw [hx] at h1 h2 h3 h4 h5 h6 h7 hX
          have HX := Lib.hid hx
          clear hx HCw m01 m11
          go_upto_region 7 with fail
          have hr1 := below1 wr (.cells #[.string x.key, .int .i64 x.seq, .bool x.gone, .string x.data, .slice A4 x.pairs.length c4] 48)
          have v0 : (wr.alloc (.cells #[.string x.key, .int .i64 x.seq, .bool x.gone, .string x.data, .slice A4 x.pairs.length c4] 48)).cell? ⟨wr.heap.size, 0, none⟩ = some (.string x.key) := box_cell (Below.refl _ _) (i := 0) rfl
          have v1 : (wr.alloc (.cells #[.string x.key, .int .i64 x.seq, .bool x.gone, .string x.data, .slice A4 x.pairs.length c4] 48)).cell? ⟨wr.heap.size, 1, none⟩ = some (.int .i64 x.seq) := box_cell (Below.refl _ _) (i := 1) rfl
          have v2 : (wr.alloc (.cells #[.string x.key, .int .i64 x.seq, .bool x.gone, .string x.data, .slice A4 x.pairs.length c4] 48)).cell? ⟨wr.heap.size, 2, none⟩ = some (.bool x.gone) := box_cell (Below.refl _ _) (i := 2) rfl
          have v3 : (wr.alloc (.cells #[.string x.key, .int .i64 x.seq, .bool x.gone, .string x.data, .slice A4 x.pairs.length c4] 48)).cell? ⟨wr.heap.size, 3, none⟩ = some (.string x.data) := box_cell (Below.refl _ _) (i := 3) rfl
          have v4 : (wr.alloc (.cells #[.string x.key, .int .i64 x.seq, .bool x.gone, .string x.data, .slice A4 x.pairs.length c4] 48)).cell? ⟨wr.heap.size, 4, none⟩ = some (.slice A4 x.pairs.length c4) := box_cell (Below.refl _ _) (i := 4) rfl
          have b0 := pw_cell_below hr1 r0
          have b1 := pw_cell_below hr1 r1
          have own1 := own_below hown hr1 hsz
          have hgv := hsz
          have hbW := hbr.trans (hr1.mono (by omega))
          have hszW : wm.heap.size + 1 ≤ (wr.alloc (.cells #[.string x.key, .int .i64 x.seq, .bool x.gone, .string x.data, .slice A4 x.pairs.length c4] 48)).heap.size := Nat.le_trans hsz hr1.size
          have h7W := Kd.C_below h7 hr1
          have HP1 := fun (hk0 : k ≠ 0) => Lib.hid (elem_below (HP hk0).out hr1)
          clear HP h1 h2 h3 h4 h5 h7 r0 r1 hown hbr hsz
          generalize (wr.alloc (.cells #[.string x.key, .int .i64 x.seq, .bool x.gone, .string x.data, .slice A4 x.pairs.length c4] 48)) = W at *
          generalize wr.heap.size = gv at *
          have HV := fun w' h => Lib.hid (version_any x A4 c4 w' (Kd.C_below h7W h) h6 hX)
          by_cases q1 : x.seq < 1
          · have s1 : decide (x.seq < 1) = true := decide_eq_true q1
            have hbad := Lib.hid (rightV_bad hlt (gd_no (nx := nx) HX.out (.inr (.inl q1))))
            refine start_ (n := 30) (S := fun w' => w'.cell? ⟨gv, 0, none⟩ = some (.string x.key) ∧ w'.cell? ⟨gv, 1, none⟩ = some (.int .i64 x.seq) ∧ w'.cell? ⟨gv, 2, none⟩ = some (.bool x.gone) ∧ w'.cell? ⟨gv, 3, none⟩ = some (.string x.data) ∧ w'.cell? ⟨gv, 4, none⟩ = some (.slice A4 x.pairs.length c4) ∧ w'.cell? ⟨w.heap.size, 0, none⟩ = some (.int .i64 nx) ∧ w'.cell? ⟨w.heap.size, 1, none⟩ = some (.slice (some ad) l.length c)) (ds := []) #[false, false, false, false, false, false, false, false, false, false, false, false, false, false, false, false, false, false, false, false, false, false, false, false, false, false, false, false, false, false] (by kernel_rfl) rfl rfl ⟨v0, v1, v2, v3, v4, b0, b1⟩ (fun hHeld => ?_)
            refine with_tabW bR.tab7 bR.bits7 (fun HT_ HW_ => ?_)
            refine pure_ (i := 0) (N := some 34) (v := ?_) (a' := ?_) #[true, false, false, false, false, false, false, false, false, false, false, false, false, false, false, false, false, false, false, false, false, false, false, false, false, false, false, false, false, false] rfl rfl (any_of HT_.out (by kernel_rfl)) (fun _ _ _ h => h) (Or.inl ⟨by rfl, ?_⟩) ?_ ?_
            rotate_left
            · intro w'
              go_simp
              with_reducible rfl
            rotate_left
            · simp only [Act.put, List.setIfInBounds_toArray, List.set_cons_zero, List.set_cons_succ, i64_w, i32_w]
              rfl
            refine take_ (i := 1) (N := some 35) (v := ?_) (a' := ?_) #[true, true, false, false, false, false, false, false, false, false, false, false, false, false, false, false, false, false, false, false, false, false, false, false, false, false, false, false, false, false] rfl rfl (take_ofW HT_.out HW_.out (by kernel_rfl)) (fun _ _ _ h => h) (Or.inl ⟨by rfl, ?_⟩) hHeld ?_ ?_
            rotate_left
            · rintro w' ⟨s0, s1, s2, s3, s4, s5, s6⟩
              go_simp
              with_reducible rfl
            rotate_left
            · simp only [Act.put, List.setIfInBounds_toArray, List.set_cons_zero, List.set_cons_succ, i64_w, i32_w]
              rfl
            refine pure_ (i := 2) (N := some 36) (v := ?_) (a' := ?_) #[true, true, true, false, false, false, false, false, false, false, false, false, false, false, false, false, false, false, false, false, false, false, false, false, false, false, false, false, false, false] rfl rfl (any_of HT_.out (by kernel_rfl)) (fun _ _ _ h => h) (Or.inl ⟨by rfl, ?_⟩) ?_ ?_
            rotate_left
            · intro w'
              go_simp
              with_reducible rfl
            rotate_left
            · simp only [Act.put, List.setIfInBounds_toArray, List.set_cons_zero, List.set_cons_succ, i64_w, i32_w]
              rfl
            refine pure_ (i := 3) (N := some 37) (v := ?_) (a' := ?_) #[true, true, true, true, false, false, false, false, false, false, false, false, false, false, false, false, false, false, false, false, false, false, false, false, false, false, false, false, false, false] rfl rfl (any_of HT_.out (by kernel_rfl)) (fun _ _ _ h => h) (Or.inl ⟨by rfl, ?_⟩) ?_ ?_
            rotate_left
            · intro w'
              go_simp
              with_reducible rfl
            rotate_left
            · simp only [Act.put, List.setIfInBounds_toArray, List.set_cons_zero, List.set_cons_succ, i64_w, i32_w]
              rfl
            refine pure_ (i := 4) (N := some 38) (v := undef) (a' := ?_) #[true, true, true, true, true, false, false, false, false, false, false, false, false, false, false, false, false, false, false, false, false, false, false, false, false, false, false, false, false, false] rfl rfl (any_of HT_.out (by kernel_rfl)) (fun _ _ _ h => h) (Or.inr ⟨by rfl, rfl⟩) ?_ ?_
            rotate_left
            · simp only [Act.put, List.setIfInBounds_toArray, List.set_cons_zero, List.set_cons_succ, i64_w, i32_w]
              rfl
            refine pure_ (i := 5) (N := some 39) (v := undef) (a' := ?_) #[true, true, true, true, true, true, false, false, false, false, false, false, false, false, false, false, false, false, false, false, false, false, false, false, false, false, false, false, false, false] rfl rfl (any_of HT_.out (by kernel_rfl)) (fun _ _ _ h => h) (Or.inr ⟨by rfl, rfl⟩) ?_ ?_
            rotate_left
            · simp only [Act.put, List.setIfInBounds_toArray, List.set_cons_zero, List.set_cons_succ, i64_w, i32_w]
              rfl
            refine pure_ (i := 6) (N := some 40) (v := undef) (a' := ?_) #[true, true, true, true, true, true, true, false, false, false, false, false, false, false, false, false, false, false, false, false, false, false, false, false, false, false, false, false, false, false] rfl rfl (any_of HT_.out (by kernel_rfl)) (fun _ _ _ h => h) (Or.inr ⟨by rfl, rfl⟩) ?_ ?_
            rotate_left
            · simp only [Act.put, List.setIfInBounds_toArray, List.set_cons_zero, List.set_cons_succ, i64_w, i32_w]
              rfl
            refine pure_ (i := 7) (N := some 41) (v := undef) (a' := ?_) #[true, true, true, true, true, true, true, true, false, false, false, false, false, false, false, false, false, false, false, false, false, false, false, false, false, false, false, false, false, false] rfl rfl (any_of HT_.out (by kernel_rfl)) (fun _ _ _ h => h) (Or.inr ⟨by rfl, rfl⟩) ?_ ?_
            rotate_left
            · simp only [Act.put, List.setIfInBounds_toArray, List.set_cons_zero, List.set_cons_succ, i64_w, i32_w]
              rfl
            refine pure_ (i := 8) (N := some 42) (v := undef) (a' := ?_) #[true, true, true, true, true, true, true, true, true, false, false, false, false, false, false, false, false, false, false, false, false, false, false, false, false, false, false, false, false, false] rfl rfl (any_of HT_.out (by kernel_rfl)) (fun _ _ _ h => h) (Or.inr ⟨by rfl, rfl⟩) ?_ ?_
            rotate_left
            · simp only [Act.put, List.setIfInBounds_toArray, List.set_cons_zero, List.set_cons_succ, i64_w, i32_w]
              rfl
            refine pure_ (i := 9) (N := some 43) (v := ?_) (a' := ?_) #[true, true, true, true, true, true, true, true, true, true, false, false, false, false, false, false, false, false, false, false, false, false, false, false, false, false, false, false, false, false] rfl rfl (any_of HT_.out (by kernel_rfl)) (fun _ _ _ h => h) (Or.inl ⟨by rfl, ?_⟩) ?_ ?_
            rotate_left
            · intro w'
              go_simp
              with_reducible rfl
            rotate_left
            · simp only [Act.put, List.setIfInBounds_toArray, List.set_cons_zero, List.set_cons_succ, i64_w, i32_w]
              rfl
            refine pure_ (i := 10) (N := some 44) (v := ?_) (a' := ?_) #[true, true, true, true, true, true, true, true, true, true, true, false, false, false, false, false, false, false, false, false, false, false, false, false, false, false, false, false, false, false] rfl rfl (any_of HT_.out (by kernel_rfl)) (fun _ _ _ h => h) (Or.inl ⟨by rfl, ?_⟩) ?_ ?_
            rotate_left
            · intro w'
              go_simp
              with_reducible rfl
            rotate_left
            · simp only [Act.put, List.setIfInBounds_toArray, List.set_cons_zero, List.set_cons_succ, i64_w, i32_w]
              rfl
            refine pure_ (i := 11) (N := some 45) (v := undef) (a' := ?_) #[true, true, true, true, true, true, true, true, true, true, true, true, false, false, false, false, false, false, false, false, false, false, false, false, false, false, false, false, false, false] rfl rfl (any_of HT_.out (by kernel_rfl)) (fun _ _ _ h => h) (Or.inr ⟨by rfl, rfl⟩) ?_ ?_
            rotate_left
            · simp only [Act.put, List.setIfInBounds_toArray, List.set_cons_zero, List.set_cons_succ, i64_w, i32_w]
              rfl
            refine pure_ (i := 12) (N := some 46) (v := undef) (a' := ?_) #[true, true, true, true, true, true, true, true, true, true, true, true, true, false, false, false, false, false, false, false, false, false, false, false, false, false, false, false, false, false] rfl rfl (any_of HT_.out (by kernel_rfl)) (fun _ _ _ h => h) (Or.inr ⟨by rfl, rfl⟩) ?_ ?_
            rotate_left
            · simp only [Act.put, List.setIfInBounds_toArray, List.set_cons_zero, List.set_cons_succ, i64_w, i32_w]
              rfl
            refine pure_ (i := 13) (N := some 47) (v := undef) (a' := ?_) #[true, true, true, true, true, true, true, true, true, true, true, true, true, true, false, false, false, false, false, false, false, false, false, false, false, false, false, false, false, false] rfl rfl (any_of HT_.out (by kernel_rfl)) (fun _ _ _ h => h) (Or.inr ⟨by rfl, rfl⟩) ?_ ?_
            rotate_left
            · simp only [Act.put, List.setIfInBounds_toArray, List.set_cons_zero, List.set_cons_succ, i64_w, i32_w]
              rfl
            refine pure_ (i := 14) (N := some 48) (v := ?_) (a' := ?_) #[true, true, true, true, true, true, true, true, true, true, true, true, true, true, true, false, false, false, false, false, false, false, false, false, false, false, false, false, false, false] rfl rfl (any_of HT_.out (by kernel_rfl)) (fun _ _ _ h => h) (Or.inl ⟨by rfl, ?_⟩) ?_ ?_
            rotate_left
            · intro w'
              go_simp
              with_reducible rfl
            rotate_left
            · simp only [Act.put, List.setIfInBounds_toArray, List.set_cons_zero, List.set_cons_succ, i64_w, i32_w]
              rfl
            refine pure_ (i := 15) (N := some 49) (v := ?_) (a' := ?_) #[true, true, true, true, true, true, true, true, true, true, true, true, true, true, true, true, false, false, false, false, false, false, false, false, false, false, false, false, false, false] rfl rfl (any_of HT_.out (by kernel_rfl)) (fun _ _ _ h => h) (Or.inl ⟨by rfl, ?_⟩) ?_ ?_
            rotate_left
            · intro w'
              go_simp
              with_reducible rfl
            rotate_left
            · simp only [Act.put, List.setIfInBounds_toArray, List.set_cons_zero, List.set_cons_succ, i64_w, i32_w]
              rfl
            refine pure_ (i := 16) (N := some 50) (v := undef) (a' := ?_) #[true, true, true, true, true, true, true, true, true, true, true, true, true, true, true, true, true, false, false, false, false, false, false, false, false, false, false, false, false, false] rfl rfl (any_of HT_.out (by kernel_rfl)) (fun _ _ _ h => h) (Or.inr ⟨by rfl, rfl⟩) ?_ ?_
            rotate_left
            · simp only [Act.put, List.setIfInBounds_toArray, List.set_cons_zero, List.set_cons_succ, i64_w, i32_w]
              rfl
            refine pure_ (i := 17) (N := some 51) (v := undef) (a' := ?_) #[true, true, true, true, true, true, true, true, true, true, true, true, true, true, true, true, true, true, false, false, false, false, false, false, false, false, false, false, false, false] rfl rfl (any_of HT_.out (by kernel_rfl)) (fun _ _ _ h => h) (Or.inr ⟨by rfl, rfl⟩) ?_ ?_
            rotate_left
            · simp only [Act.put, List.setIfInBounds_toArray, List.set_cons_zero, List.set_cons_succ, i64_w, i32_w]
              rfl
            refine pure_ (i := 18) (N := some 52) (v := undef) (a' := ?_) #[true, true, true, true, true, true, true, true, true, true, true, true, true, true, true, true, true, true, true, false, false, false, false, false, false, false, false, false, false, false] rfl rfl (any_of HT_.out (by kernel_rfl)) (fun _ _ _ h => h) (Or.inr ⟨by rfl, rfl⟩) ?_ ?_
            rotate_left
            · simp only [Act.put, List.setIfInBounds_toArray, List.set_cons_zero, List.set_cons_succ, i64_w, i32_w]
              rfl
            refine pure_ (i := 19) (N := some 53) (v := undef) (a' := ?_) #[true, true, true, true, true, true, true, true, true, true, true, true, true, true, true, true, true, true, true, true, false, false, false, false, false, false, false, false, false, false] rfl rfl (any_of HT_.out (by kernel_rfl)) (fun _ _ _ h => h) (Or.inr ⟨by rfl, rfl⟩) ?_ ?_
            rotate_left
            · simp only [Act.put, List.setIfInBounds_toArray, List.set_cons_zero, List.set_cons_succ, i64_w, i32_w]
              rfl
            refine pure_ (i := 20) (N := some 54) (v := undef) (a' := ?_) #[true, true, true, true, true, true, true, true, true, true, true, true, true, true, true, true, true, true, true, true, true, false, false, false, false, false, false, false, false, false] rfl rfl (any_of HT_.out (by kernel_rfl)) (fun _ _ _ h => h) (Or.inr ⟨by rfl, rfl⟩) ?_ ?_
            rotate_left
            · simp only [Act.put, List.setIfInBounds_toArray, List.set_cons_zero, List.set_cons_succ, i64_w, i32_w]
              rfl
            refine pure_ (i := 21) (N := some 55) (v := undef) (a' := ?_) #[true, true, true, true, true, true, true, true, true, true, true, true, true, true, true, true, true, true, true, true, true, true, false, false, false, false, false, false, false, false] rfl rfl (any_of HT_.out (by kernel_rfl)) (fun _ _ _ h => h) (Or.inr ⟨by rfl, rfl⟩) ?_ ?_
            rotate_left
            · simp only [Act.put, List.setIfInBounds_toArray, List.set_cons_zero, List.set_cons_succ, i64_w, i32_w]
              rfl
            refine pure_ (i := 22) (N := some 56) (v := undef) (a' := ?_) #[true, true, true, true, true, true, true, true, true, true, true, true, true, true, true, true, true, true, true, true, true, true, true, false, false, false, false, false, false, false] rfl rfl (any_of HT_.out (by kernel_rfl)) (fun _ _ _ h => h) (Or.inr ⟨by rfl, rfl⟩) ?_ ?_
            rotate_left
            · simp only [Act.put, List.setIfInBounds_toArray, List.set_cons_zero, List.set_cons_succ, i64_w, i32_w]
              rfl
            refine pure_ (i := 23) (N := some 57) (v := undef) (a' := ?_) #[true, true, true, true, true, true, true, true, true, true, true, true, true, true, true, true, true, true, true, true, true, true, true, true, false, false, false, false, false, false] rfl rfl (any_of HT_.out (by kernel_rfl)) (fun _ _ _ h => h) (Or.inr ⟨by rfl, rfl⟩) ?_ ?_
            rotate_left
            · simp only [Act.put, List.setIfInBounds_toArray, List.set_cons_zero, List.set_cons_succ, i64_w, i32_w]
              rfl
            refine pure_ (i := 24) (N := some 58) (v := undef) (a' := ?_) #[true, true, true, true, true, true, true, true, true, true, true, true, true, true, true, true, true, true, true, true, true, true, true, true, true, false, false, false, false, false] rfl rfl (any_of HT_.out (by kernel_rfl)) (fun _ _ _ h => h) (Or.inr ⟨by rfl, rfl⟩) ?_ ?_
            rotate_left
            · simp only [Act.put, List.setIfInBounds_toArray, List.set_cons_zero, List.set_cons_succ, i64_w, i32_w]
              rfl
            refine pure_ (i := 25) (N := some 59) (v := undef) (a' := ?_) #[true, true, true, true, true, true, true, true, true, true, true, true, true, true, true, true, true, true, true, true, true, true, true, true, true, true, false, false, false, false] rfl rfl (any_of HT_.out (by kernel_rfl)) (fun _ _ _ h => h) (Or.inr ⟨by rfl, rfl⟩) ?_ ?_
            rotate_left
            · simp only [Act.put, List.setIfInBounds_toArray, List.set_cons_zero, List.set_cons_succ, i64_w, i32_w]
              rfl
            refine pure_ (i := 26) (N := some 60) (v := undef) (a' := ?_) #[true, true, true, true, true, true, true, true, true, true, true, true, true, true, true, true, true, true, true, true, true, true, true, true, true, true, true, false, false, false] rfl rfl (any_of HT_.out (by kernel_rfl)) (fun _ _ _ h => h) (Or.inr ⟨by rfl, rfl⟩) ?_ ?_
            rotate_left
            · simp only [Act.put, List.setIfInBounds_toArray, List.set_cons_zero, List.set_cons_succ, i64_w, i32_w]
              rfl
            refine pure_ (i := 27) (N := some 61) (v := undef) (a' := ?_) #[true, true, true, true, true, true, true, true, true, true, true, true, true, true, true, true, true, true, true, true, true, true, true, true, true, true, true, true, false, false] rfl rfl (any_of HT_.out (by kernel_rfl)) (fun _ _ _ h => h) (Or.inr ⟨by rfl, rfl⟩) ?_ ?_
            rotate_left
            · simp only [Act.put, List.setIfInBounds_toArray, List.set_cons_zero, List.set_cons_succ, i64_w, i32_w]
              rfl
            refine pure_ (i := 28) (N := some 62) (v := undef) (a' := ?_) #[true, true, true, true, true, true, true, true, true, true, true, true, true, true, true, true, true, true, true, true, true, true, true, true, true, true, true, true, true, false] rfl rfl (any_of HT_.out (by kernel_rfl)) (fun _ _ _ h => h) (Or.inr ⟨by rfl, rfl⟩) ?_ ?_
            rotate_left
            · simp only [Act.put, List.setIfInBounds_toArray, List.set_cons_zero, List.set_cons_succ, i64_w, i32_w]
              rfl
            refine pure_ (i := 29) (N := some 63) (v := ?_) (a' := ?_) #[true, true, true, true, true, true, true, true, true, true, true, true, true, true, true, true, true, true, true, true, true, true, true, true, true, true, true, true, true, true] rfl rfl (any_of HT_.out (by kernel_rfl)) (fun _ _ _ h => h) (Or.inl ⟨by rfl, ?_⟩) ?_ ?_
            rotate_left
            · intro w'
              go_simp
              with_reducible rfl
            rotate_left
            · simp only [Act.put, List.setIfInBounds_toArray, List.set_cons_zero, List.set_cons_succ, i64_w, i32_w]
              rfl
            refine done_ (done_of HT_.out (by kernel_rfl)) ?_
            go_wp2
            go_ret
            exact ⟨ret_bool hbad.out.symm, (hbw.trans (hbW.mono (by omega))).drew⟩
          · have s1 : decide (x.seq < 1) = false := decide_eq_false q1
            by_cases q2 : nx ≤ x.seq
            · have s2 : decide (nx ≤ x.seq) = true := decide_eq_true q2
              have hbad := Lib.hid (rightV_bad hlt (gd_no (nx := nx) HX.out (.inr (.inr (.inl q2)))))
              refine start_ (n := 30) (S := fun w' => w'.cell? ⟨gv, 0, none⟩ = some (.string x.key) ∧ w'.cell? ⟨gv, 1, none⟩ = some (.int .i64 x.seq) ∧ w'.cell? ⟨gv, 2, none⟩ = some (.bool x.gone) ∧ w'.cell? ⟨gv, 3, none⟩ = some (.string x.data) ∧ w'.cell? ⟨gv, 4, none⟩ = some (.slice A4 x.pairs.length c4) ∧ w'.cell? ⟨w.heap.size, 0, none⟩ = some (.int .i64 nx) ∧ w'.cell? ⟨w.heap.size, 1, none⟩ = some (.slice (some ad) l.length c)) (ds := []) #[false, false, false, false, false, false, false, false, false, false, false, false, false, false, false, false, false, false, false, false, false, false, false, false, false, false, false, false, false, false] (by kernel_rfl) rfl rfl ⟨v0, v1, v2, v3, v4, b0, b1⟩ (fun hHeld => ?_)
              refine with_tabW bR.tab7 bR.bits7 (fun HT_ HW_ => ?_)
              refine pure_ (i := 0) (N := some 34) (v := ?_) (a' := ?_) #[true, false, false, false, false, false, false, false, false, false, false, false, false, false, false, false, false, false, false, false, false, false, false, false, false, false, false, false, false, false] rfl rfl (any_of HT_.out (by kernel_rfl)) (fun _ _ _ h => h) (Or.inl ⟨by rfl, ?_⟩) ?_ ?_
              rotate_left
              · intro w'
                go_simp
                with_reducible rfl
              rotate_left
              · simp only [Act.put, List.setIfInBounds_toArray, List.set_cons_zero, List.set_cons_succ, i64_w, i32_w]
                rfl
              refine take_ (i := 1) (N := some 35) (v := ?_) (a' := ?_) #[true, true, false, false, false, false, false, false, false, false, false, false, false, false, false, false, false, false, false, false, false, false, false, false, false, false, false, false, false, false] rfl rfl (take_ofW HT_.out HW_.out (by kernel_rfl)) (fun _ _ _ h => h) (Or.inl ⟨by rfl, ?_⟩) hHeld ?_ ?_
              rotate_left
              · rintro w' ⟨s0, s1, s2, s3, s4, s5, s6⟩
                go_simp
                with_reducible rfl
              rotate_left
              · simp only [Act.put, List.setIfInBounds_toArray, List.set_cons_zero, List.set_cons_succ, i64_w, i32_w]
                rfl
              refine pure_ (i := 2) (N := some 36) (v := ?_) (a' := ?_) #[true, true, true, false, false, false, false, false, false, false, false, false, false, false, false, false, false, false, false, false, false, false, false, false, false, false, false, false, false, false] rfl rfl (any_of HT_.out (by kernel_rfl)) (fun _ _ _ h => h) (Or.inl ⟨by rfl, ?_⟩) ?_ ?_
              rotate_left
              · intro w'
                go_simp
                with_reducible rfl
              rotate_left
              · simp only [Act.put, List.setIfInBounds_toArray, List.set_cons_zero, List.set_cons_succ, i64_w, i32_w]
                rfl
              refine pure_ (i := 3) (N := some 37) (v := ?_) (a' := ?_) #[true, true, true, true, false, false, false, false, false, false, false, false, false, false, false, false, false, false, false, false, false, false, false, false, false, false, false, false, false, false] rfl rfl (any_of HT_.out (by kernel_rfl)) (fun _ _ _ h => h) (Or.inl ⟨by rfl, ?_⟩) ?_ ?_
              rotate_left
              · intro w'
                go_simp
                with_reducible rfl
              rotate_left
              · simp only [Act.put, List.setIfInBounds_toArray, List.set_cons_zero, List.set_cons_succ, i64_w, i32_w]
                rfl
              refine pure_ (i := 4) (N := some 38) (v := ?_) (a' := ?_) #[true, true, true, true, true, false, false, false, false, false, false, false, false, false, false, false, false, false, false, false, false, false, false, false, false, false, false, false, false, false] rfl rfl (any_of HT_.out (by kernel_rfl)) (fun _ _ _ h => h) (Or.inl ⟨by rfl, ?_⟩) ?_ ?_
              rotate_left
              · intro w'
                go_simp
                with_reducible rfl
              rotate_left
              · simp only [Act.put, List.setIfInBounds_toArray, List.set_cons_zero, List.set_cons_succ, i64_w, i32_w]
                rfl
              refine pure_ (i := 6) (N := some 40) (v := ?_) (a' := ?_) #[true, true, true, true, true, false, true, false, false, false, false, false, false, false, false, false, false, false, false, false, false, false, false, false, false, false, false, false, false, false] rfl rfl (any_of HT_.out (by kernel_rfl)) (fun _ _ _ h => h) (Or.inl ⟨by rfl, ?_⟩) ?_ ?_
              rotate_left
              · intro w'
                go_simp
                with_reducible rfl
              rotate_left
              · simp only [Act.put, List.setIfInBounds_toArray, List.set_cons_zero, List.set_cons_succ, i64_w, i32_w]
                rfl
              refine take_ (i := 5) (N := some 39) (v := ?_) (a' := ?_) #[true, true, true, true, true, true, true, false, false, false, false, false, false, false, false, false, false, false, false, false, false, false, false, false, false, false, false, false, false, false] rfl rfl (take_ofW HT_.out HW_.out (by kernel_rfl)) (fun _ _ _ h => h) (Or.inl ⟨by rfl, ?_⟩) hHeld ?_ ?_
              rotate_left
              · rintro w' ⟨s0, s1, s2, s3, s4, s5, s6⟩
                go_simp
                with_reducible rfl
              rotate_left
              · simp only [Act.put, List.setIfInBounds_toArray, List.set_cons_zero, List.set_cons_succ, i64_w, i32_w]
                rfl
              refine take_ (i := 7) (N := some 41) (v := ?_) (a' := ?_) #[true, true, true, true, true, true, true, true, false, false, false, false, false, false, false, false, false, false, false, false, false, false, false, false, false, false, false, false, false, false] rfl rfl (take_ofW HT_.out HW_.out (by kernel_rfl)) (fun _ _ _ h => h) (Or.inl ⟨by rfl, ?_⟩) hHeld ?_ ?_
              rotate_left
              · rintro w' ⟨s0, s1, s2, s3, s4, s5, s6⟩
                go_simp
                with_reducible rfl
              rotate_left
              · simp only [Act.put, List.setIfInBounds_toArray, List.set_cons_zero, List.set_cons_succ, i64_w, i32_w]
                rfl
              refine pure_ (i := 8) (N := some 42) (v := ?_) (a' := ?_) #[true, true, true, true, true, true, true, true, true, false, false, false, false, false, false, false, false, false, false, false, false, false, false, false, false, false, false, false, false, false] rfl rfl (any_of HT_.out (by kernel_rfl)) (fun _ _ _ h => h) (Or.inl ⟨by rfl, ?_⟩) ?_ ?_
              rotate_left
              · intro w'
                go_simp
                with_reducible rfl
              rotate_left
              · simp only [Act.put, List.setIfInBounds_toArray, List.set_cons_zero, List.set_cons_succ, i64_w, i32_w]
                rfl
              refine pure_ (i := 9) (N := some 43) (v := ?_) (a' := ?_) #[true, true, true, true, true, true, true, true, true, true, false, false, false, false, false, false, false, false, false, false, false, false, false, false, false, false, false, false, false, false] rfl rfl (any_of HT_.out (by kernel_rfl)) (fun _ _ _ h => h) (Or.inl ⟨by rfl, ?_⟩) ?_ ?_
              rotate_left
              · intro w'
                go_simp
                with_reducible rfl
              rotate_left
              · simp only [Act.put, List.setIfInBounds_toArray, List.set_cons_zero, List.set_cons_succ, i64_w, i32_w]
                rfl
              refine pure_ (i := 10) (N := some 44) (v := ?_) (a' := ?_) #[true, true, true, true, true, true, true, true, true, true, true, false, false, false, false, false, false, false, false, false, false, false, false, false, false, false, false, false, false, false] rfl rfl (any_of HT_.out (by kernel_rfl)) (fun _ _ _ h => h) (Or.inl ⟨by rfl, ?_⟩) ?_ ?_
              rotate_left
              · intro w'
                go_simp
                with_reducible rfl
              rotate_left
              · simp only [Act.put, List.setIfInBounds_toArray, List.set_cons_zero, List.set_cons_succ, i64_w, i32_w]
                rfl
              refine pure_ (i := 11) (N := some 45) (v := undef) (a' := ?_) #[true, true, true, true, true, true, true, true, true, true, true, true, false, false, false, false, false, false, false, false, false, false, false, false, false, false, false, false, false, false] rfl rfl (any_of HT_.out (by kernel_rfl)) (fun _ _ _ h => h) (Or.inr ⟨by rfl, rfl⟩) ?_ ?_
              rotate_left
              · simp only [Act.put, List.setIfInBounds_toArray, List.set_cons_zero, List.set_cons_succ, i64_w, i32_w]
                rfl
              refine pure_ (i := 12) (N := some 46) (v := undef) (a' := ?_) #[true, true, true, true, true, true, true, true, true, true, true, true, true, false, false, false, false, false, false, false, false, false, false, false, false, false, false, false, false, false] rfl rfl (any_of HT_.out (by kernel_rfl)) (fun _ _ _ h => h) (Or.inr ⟨by rfl, rfl⟩) ?_ ?_
              rotate_left
              · simp only [Act.put, List.setIfInBounds_toArray, List.set_cons_zero, List.set_cons_succ, i64_w, i32_w]
                rfl
              refine pure_ (i := 13) (N := some 47) (v := undef) (a' := ?_) #[true, true, true, true, true, true, true, true, true, true, true, true, true, true, false, false, false, false, false, false, false, false, false, false, false, false, false, false, false, false] rfl rfl (any_of HT_.out (by kernel_rfl)) (fun _ _ _ h => h) (Or.inr ⟨by rfl, rfl⟩) ?_ ?_
              rotate_left
              · simp only [Act.put, List.setIfInBounds_toArray, List.set_cons_zero, List.set_cons_succ, i64_w, i32_w]
                rfl
              refine pure_ (i := 14) (N := some 48) (v := ?_) (a' := ?_) #[true, true, true, true, true, true, true, true, true, true, true, true, true, true, true, false, false, false, false, false, false, false, false, false, false, false, false, false, false, false] rfl rfl (any_of HT_.out (by kernel_rfl)) (fun _ _ _ h => h) (Or.inl ⟨by rfl, ?_⟩) ?_ ?_
              rotate_left
              · intro w'
                go_simp
                with_reducible rfl
              rotate_left
              · simp only [Act.put, List.setIfInBounds_toArray, List.set_cons_zero, List.set_cons_succ, i64_w, i32_w]
                rfl
              refine pure_ (i := 15) (N := some 49) (v := ?_) (a' := ?_) #[true, true, true, true, true, true, true, true, true, true, true, true, true, true, true, true, false, false, false, false, false, false, false, false, false, false, false, false, false, false] rfl rfl (any_of HT_.out (by kernel_rfl)) (fun _ _ _ h => h) (Or.inl ⟨by rfl, ?_⟩) ?_ ?_
              rotate_left
              · intro w'
                go_simp
                with_reducible rfl
              rotate_left
              · simp only [Act.put, List.setIfInBounds_toArray, List.set_cons_zero, List.set_cons_succ, i64_w, i32_w]
                rfl
              refine pure_ (i := 16) (N := some 50) (v := undef) (a' := ?_) #[true, true, true, true, true, true, true, true, true, true, true, true, true, true, true, true, true, false, false, false, false, false, false, false, false, false, false, false, false, false] rfl rfl (any_of HT_.out (by kernel_rfl)) (fun _ _ _ h => h) (Or.inr ⟨by rfl, rfl⟩) ?_ ?_
              rotate_left
              · simp only [Act.put, List.setIfInBounds_toArray, List.set_cons_zero, List.set_cons_succ, i64_w, i32_w]
                rfl
              refine pure_ (i := 17) (N := some 51) (v := undef) (a' := ?_) #[true, true, true, true, true, true, true, true, true, true, true, true, true, true, true, true, true, true, false, false, false, false, false, false, false, false, false, false, false, false] rfl rfl (any_of HT_.out (by kernel_rfl)) (fun _ _ _ h => h) (Or.inr ⟨by rfl, rfl⟩) ?_ ?_
              rotate_left
              · simp only [Act.put, List.setIfInBounds_toArray, List.set_cons_zero, List.set_cons_succ, i64_w, i32_w]
                rfl
              refine pure_ (i := 18) (N := some 52) (v := undef) (a' := ?_) #[true, true, true, true, true, true, true, true, true, true, true, true, true, true, true, true, true, true, true, false, false, false, false, false, false, false, false, false, false, false] rfl rfl (any_of HT_.out (by kernel_rfl)) (fun _ _ _ h => h) (Or.inr ⟨by rfl, rfl⟩) ?_ ?_
              rotate_left
              · simp only [Act.put, List.setIfInBounds_toArray, List.set_cons_zero, List.set_cons_succ, i64_w, i32_w]
                rfl
              refine pure_ (i := 19) (N := some 53) (v := undef) (a' := ?_) #[true, true, true, true, true, true, true, true, true, true, true, true, true, true, true, true, true, true, true, true, false, false, false, false, false, false, false, false, false, false] rfl rfl (any_of HT_.out (by kernel_rfl)) (fun _ _ _ h => h) (Or.inr ⟨by rfl, rfl⟩) ?_ ?_
              rotate_left
              · simp only [Act.put, List.setIfInBounds_toArray, List.set_cons_zero, List.set_cons_succ, i64_w, i32_w]
                rfl
              refine pure_ (i := 20) (N := some 54) (v := undef) (a' := ?_) #[true, true, true, true, true, true, true, true, true, true, true, true, true, true, true, true, true, true, true, true, true, false, false, false, false, false, false, false, false, false] rfl rfl (any_of HT_.out (by kernel_rfl)) (fun _ _ _ h => h) (Or.inr ⟨by rfl, rfl⟩) ?_ ?_
              rotate_left
              · simp only [Act.put, List.setIfInBounds_toArray, List.set_cons_zero, List.set_cons_succ, i64_w, i32_w]
                rfl
              refine pure_ (i := 21) (N := some 55) (v := undef) (a' := ?_) #[true, true, true, true, true, true, true, true, true, true, true, true, true, true, true, true, true, true, true, true, true, true, false, false, false, false, false, false, false, false] rfl rfl (any_of HT_.out (by kernel_rfl)) (fun _ _ _ h => h) (Or.inr ⟨by rfl, rfl⟩) ?_ ?_
              rotate_left
              · simp only [Act.put, List.setIfInBounds_toArray, List.set_cons_zero, List.set_cons_succ, i64_w, i32_w]
                rfl
              refine pure_ (i := 22) (N := some 56) (v := undef) (a' := ?_) #[true, true, true, true, true, true, true, true, true, true, true, true, true, true, true, true, true, true, true, true, true, true, true, false, false, false, false, false, false, false] rfl rfl (any_of HT_.out (by kernel_rfl)) (fun _ _ _ h => h) (Or.inr ⟨by rfl, rfl⟩) ?_ ?_
              rotate_left
              · simp only [Act.put, List.setIfInBounds_toArray, List.set_cons_zero, List.set_cons_succ, i64_w, i32_w]
                rfl
              refine pure_ (i := 23) (N := some 57) (v := undef) (a' := ?_) #[true, true, true, true, true, true, true, true, true, true, true, true, true, true, true, true, true, true, true, true, true, true, true, true, false, false, false, false, false, false] rfl rfl (any_of HT_.out (by kernel_rfl)) (fun _ _ _ h => h) (Or.inr ⟨by rfl, rfl⟩) ?_ ?_
              rotate_left
              · simp only [Act.put, List.setIfInBounds_toArray, List.set_cons_zero, List.set_cons_succ, i64_w, i32_w]
                rfl
              refine pure_ (i := 24) (N := some 58) (v := undef) (a' := ?_) #[true, true, true, true, true, true, true, true, true, true, true, true, true, true, true, true, true, true, true, true, true, true, true, true, true, false, false, false, false, false] rfl rfl (any_of HT_.out (by kernel_rfl)) (fun _ _ _ h => h) (Or.inr ⟨by rfl, rfl⟩) ?_ ?_
              rotate_left
              · simp only [Act.put, List.setIfInBounds_toArray, List.set_cons_zero, List.set_cons_succ, i64_w, i32_w]
                rfl
              refine pure_ (i := 25) (N := some 59) (v := undef) (a' := ?_) #[true, true, true, true, true, true, true, true, true, true, true, true, true, true, true, true, true, true, true, true, true, true, true, true, true, true, false, false, false, false] rfl rfl (any_of HT_.out (by kernel_rfl)) (fun _ _ _ h => h) (Or.inr ⟨by rfl, rfl⟩) ?_ ?_
              rotate_left
              · simp only [Act.put, List.setIfInBounds_toArray, List.set_cons_zero, List.set_cons_succ, i64_w, i32_w]
                rfl
              refine pure_ (i := 26) (N := some 60) (v := undef) (a' := ?_) #[true, true, true, true, true, true, true, true, true, true, true, true, true, true, true, true, true, true, true, true, true, true, true, true, true, true, true, false, false, false] rfl rfl (any_of HT_.out (by kernel_rfl)) (fun _ _ _ h => h) (Or.inr ⟨by rfl, rfl⟩) ?_ ?_
              rotate_left
              · simp only [Act.put, List.setIfInBounds_toArray, List.set_cons_zero, List.set_cons_succ, i64_w, i32_w]
                rfl
              refine pure_ (i := 27) (N := some 61) (v := undef) (a' := ?_) #[true, true, true, true, true, true, true, true, true, true, true, true, true, true, true, true, true, true, true, true, true, true, true, true, true, true, true, true, false, false] rfl rfl (any_of HT_.out (by kernel_rfl)) (fun _ _ _ h => h) (Or.inr ⟨by rfl, rfl⟩) ?_ ?_
              rotate_left
              · simp only [Act.put, List.setIfInBounds_toArray, List.set_cons_zero, List.set_cons_succ, i64_w, i32_w]
                rfl
              refine pure_ (i := 28) (N := some 62) (v := undef) (a' := ?_) #[true, true, true, true, true, true, true, true, true, true, true, true, true, true, true, true, true, true, true, true, true, true, true, true, true, true, true, true, true, false] rfl rfl (any_of HT_.out (by kernel_rfl)) (fun _ _ _ h => h) (Or.inr ⟨by rfl, rfl⟩) ?_ ?_
              rotate_left
              · simp only [Act.put, List.setIfInBounds_toArray, List.set_cons_zero, List.set_cons_succ, i64_w, i32_w]
                rfl
              refine pure_ (i := 29) (N := some 63) (v := ?_) (a' := ?_) #[true, true, true, true, true, true, true, true, true, true, true, true, true, true, true, true, true, true, true, true, true, true, true, true, true, true, true, true, true, true] rfl rfl (any_of HT_.out (by kernel_rfl)) (fun _ _ _ h => h) (Or.inl ⟨by rfl, ?_⟩) ?_ ?_
              rotate_left
              · intro w'
                go_simp
                with_reducible rfl
              rotate_left
              · simp only [Act.put, List.setIfInBounds_toArray, List.set_cons_zero, List.set_cons_succ, i64_w, i32_w]
                rfl
              refine done_ (done_of HT_.out (by kernel_rfl)) ?_
              go_wp2
              go_ret
              exact ⟨ret_bool hbad.out.symm, (hbw.trans (hbW.mono (by omega))).drew⟩
            · have s2 : decide (nx ≤ x.seq) = false := decide_eq_false q2
              cases q3 : wel x with
              | false =>
                have hbad := Lib.hid (rightV_bad hlt (gd_no (nx := nx) HX.out (.inl q3)))
                rw [q3] at HV
                refine start_ (n := 30) (S := fun w' => w'.cell? ⟨gv, 0, none⟩ = some (.string x.key) ∧ w'.cell? ⟨gv, 1, none⟩ = some (.int .i64 x.seq) ∧ w'.cell? ⟨gv, 2, none⟩ = some (.bool x.gone) ∧ w'.cell? ⟨gv, 3, none⟩ = some (.string x.data) ∧ w'.cell? ⟨gv, 4, none⟩ = some (.slice A4 x.pairs.length c4) ∧ w'.cell? ⟨w.heap.size, 0, none⟩ = some (.int .i64 nx) ∧ w'.cell? ⟨w.heap.size, 1, none⟩ = some (.slice (some ad) l.length c)) (ds := []) #[false, false, false, false, false, false, false, false, false, false, false, false, false, false, false, false, false, false, false, false, false, false, false, false, false, false, false, false, false, false] (by kernel_rfl) rfl rfl ⟨v0, v1, v2, v3, v4, b0, b1⟩ (fun hHeld => ?_)
                refine with_tabW bR.tab7 bR.bits7 (fun HT_ HW_ => ?_)
                refine pure_ (i := 0) (N := some 34) (v := ?_) (a' := ?_) #[true, false, false, false, false, false, false, false, false, false, false, false, false, false, false, false, false, false, false, false, false, false, false, false, false, false, false, false, false, false] rfl rfl (any_of HT_.out (by kernel_rfl)) (fun _ _ _ h => h) (Or.inl ⟨by rfl, ?_⟩) ?_ ?_
                rotate_left
                · intro w'
                  go_simp
                  with_reducible rfl
                rotate_left
                · simp only [Act.put, List.setIfInBounds_toArray, List.set_cons_zero, List.set_cons_succ, i64_w, i32_w]
                  rfl
                refine take_ (i := 1) (N := some 35) (v := ?_) (a' := ?_) #[true, true, false, false, false, false, false, false, false, false, false, false, false, false, false, false, false, false, false, false, false, false, false, false, false, false, false, false, false, false] rfl rfl (take_ofW HT_.out HW_.out (by kernel_rfl)) (fun _ _ _ h => h) (Or.inl ⟨by rfl, ?_⟩) hHeld ?_ ?_
                rotate_left
                · rintro w' ⟨s0, s1, s2, s3, s4, s5, s6⟩
                  go_simp
                  with_reducible rfl
                rotate_left
                · simp only [Act.put, List.setIfInBounds_toArray, List.set_cons_zero, List.set_cons_succ, i64_w, i32_w]
                  rfl
                refine pure_ (i := 2) (N := some 36) (v := ?_) (a' := ?_) #[true, true, true, false, false, false, false, false, false, false, false, false, false, false, false, false, false, false, false, false, false, false, false, false, false, false, false, false, false, false] rfl rfl (any_of HT_.out (by kernel_rfl)) (fun _ _ _ h => h) (Or.inl ⟨by rfl, ?_⟩) ?_ ?_
                rotate_left
                · intro w'
                  go_simp
                  with_reducible rfl
                rotate_left
                · simp only [Act.put, List.setIfInBounds_toArray, List.set_cons_zero, List.set_cons_succ, i64_w, i32_w]
                  rfl
                refine pure_ (i := 3) (N := some 37) (v := ?_) (a' := ?_) #[true, true, true, true, false, false, false, false, false, false, false, false, false, false, false, false, false, false, false, false, false, false, false, false, false, false, false, false, false, false] rfl rfl (any_of HT_.out (by kernel_rfl)) (fun _ _ _ h => h) (Or.inl ⟨by rfl, ?_⟩) ?_ ?_
                rotate_left
                · intro w'
                  go_simp
                  with_reducible rfl
                rotate_left
                · simp only [Act.put, List.setIfInBounds_toArray, List.set_cons_zero, List.set_cons_succ, i64_w, i32_w]
                  rfl
                refine pure_ (i := 4) (N := some 38) (v := ?_) (a' := ?_) #[true, true, true, true, true, false, false, false, false, false, false, false, false, false, false, false, false, false, false, false, false, false, false, false, false, false, false, false, false, false] rfl rfl (any_of HT_.out (by kernel_rfl)) (fun _ _ _ h => h) (Or.inl ⟨by rfl, ?_⟩) ?_ ?_
                rotate_left
                · intro w'
                  go_simp
                  with_reducible rfl
                rotate_left
                · simp only [Act.put, List.setIfInBounds_toArray, List.set_cons_zero, List.set_cons_succ, i64_w, i32_w]
                  rfl
                refine pure_ (i := 6) (N := some 40) (v := ?_) (a' := ?_) #[true, true, true, true, true, false, true, false, false, false, false, false, false, false, false, false, false, false, false, false, false, false, false, false, false, false, false, false, false, false] rfl rfl (any_of HT_.out (by kernel_rfl)) (fun _ _ _ h => h) (Or.inl ⟨by rfl, ?_⟩) ?_ ?_
                rotate_left
                · intro w'
                  go_simp
                  with_reducible rfl
                rotate_left
                · simp only [Act.put, List.setIfInBounds_toArray, List.set_cons_zero, List.set_cons_succ, i64_w, i32_w]
                  rfl
                refine take_ (i := 5) (N := some 39) (v := ?_) (a' := ?_) #[true, true, true, true, true, true, true, false, false, false, false, false, false, false, false, false, false, false, false, false, false, false, false, false, false, false, false, false, false, false] rfl rfl (take_ofW HT_.out HW_.out (by kernel_rfl)) (fun _ _ _ h => h) (Or.inl ⟨by rfl, ?_⟩) hHeld ?_ ?_
                rotate_left
                · rintro w' ⟨s0, s1, s2, s3, s4, s5, s6⟩
                  go_simp
                  with_reducible rfl
                rotate_left
                · simp only [Act.put, List.setIfInBounds_toArray, List.set_cons_zero, List.set_cons_succ, i64_w, i32_w]
                  rfl
                refine take_ (i := 7) (N := some 41) (v := ?_) (a' := ?_) #[true, true, true, true, true, true, true, true, false, false, false, false, false, false, false, false, false, false, false, false, false, false, false, false, false, false, false, false, false, false] rfl rfl (take_ofW HT_.out HW_.out (by kernel_rfl)) (fun _ _ _ h => h) (Or.inl ⟨by rfl, ?_⟩) hHeld ?_ ?_
                rotate_left
                · rintro w' ⟨s0, s1, s2, s3, s4, s5, s6⟩
                  go_simp
                  with_reducible rfl
                rotate_left
                · simp only [Act.put, List.setIfInBounds_toArray, List.set_cons_zero, List.set_cons_succ, i64_w, i32_w]
                  rfl
                refine pure_ (i := 8) (N := some 42) (v := ?_) (a' := ?_) #[true, true, true, true, true, true, true, true, true, false, false, false, false, false, false, false, false, false, false, false, false, false, false, false, false, false, false, false, false, false] rfl rfl (any_of HT_.out (by kernel_rfl)) (fun _ _ _ h => h) (Or.inl ⟨by rfl, ?_⟩) ?_ ?_
                rotate_left
                · intro w'
                  go_simp
                  with_reducible rfl
                rotate_left
                · simp only [Act.put, List.setIfInBounds_toArray, List.set_cons_zero, List.set_cons_succ, i64_w, i32_w]
                  rfl
                refine pure_ (i := 9) (N := some 43) (v := ?_) (a' := ?_) #[true, true, true, true, true, true, true, true, true, true, false, false, false, false, false, false, false, false, false, false, false, false, false, false, false, false, false, false, false, false] rfl rfl (any_of HT_.out (by kernel_rfl)) (fun _ _ _ h => h) (Or.inl ⟨by rfl, ?_⟩) ?_ ?_
                rotate_left
                · intro w'
                  go_simp
                  with_reducible rfl
                rotate_left
                · simp only [Act.put, List.setIfInBounds_toArray, List.set_cons_zero, List.set_cons_succ, i64_w, i32_w]
                  rfl
                refine pure_ (i := 10) (N := some 44) (v := ?_) (a' := ?_) #[true, true, true, true, true, true, true, true, true, true, true, false, false, false, false, false, false, false, false, false, false, false, false, false, false, false, false, false, false, false] rfl rfl (any_of HT_.out (by kernel_rfl)) (fun _ _ _ h => h) (Or.inl ⟨by rfl, ?_⟩) ?_ ?_
                rotate_left
                · intro w'
                  go_simp
                  with_reducible rfl
                rotate_left
                · simp only [Act.put, List.setIfInBounds_toArray, List.set_cons_zero, List.set_cons_succ, i64_w, i32_w]
                  rfl
                refine take_ (i := 11) (N := some 45) (v := ?_) (a' := ?_) #[true, true, true, true, true, true, true, true, true, true, true, true, false, false, false, false, false, false, false, false, false, false, false, false, false, false, false, false, false, false] rfl rfl (take_ofW HT_.out HW_.out (by kernel_rfl)) (fun _ _ _ h => h) (Or.inl ⟨by rfl, ?_⟩) hHeld ?_ ?_
                rotate_left
                · rintro w' ⟨s0, s1, s2, s3, s4, s5, s6⟩
                  go_simp
                  with_reducible rfl
                rotate_left
                · simp only [Act.put, List.setIfInBounds_toArray, List.set_cons_zero, List.set_cons_succ, i64_w, i32_w]
                  rfl
                refine one_ (i := 12) (N := some 46) #[true, true, true, true, true, true, true, true, true, true, true, true, true, false, false, false, false, false, false, false, false, false, false, false, false, false, false, false, false, false] rfl rfl (one_of HT_.out (by kernel_rfl)) (by decide) (fun K hK => ?_)
                refine goes_ Try.func45 (by kernel_rfl) rfl #[x.val A4 c4] (by rfl) rfl rfl (by simp only [List.map_toArray, List.map_cons, List.map_nil]; rfl) ?_
                with_reducible refine ((HV _ (Below.refl _ _).drew).out).mono ?_
                rintro e w3 ⟨r, rfl, hr, hb⟩
                refine ⟨_, rfl, ?_⟩
                have hbx := hb
                have r1 := by_ver hr
                refine hK.out _ _ ⟨pw_cell_below hb (hHeld.1), pw_cell_below hb (hHeld.2.1), pw_cell_below hb (hHeld.2.2.1), pw_cell_below hb (hHeld.2.2.2.1), pw_cell_below hb (hHeld.2.2.2.2.1), pw_cell_below hb (hHeld.2.2.2.2.2.1), pw_cell_below hb (hHeld.2.2.2.2.2.2)⟩ (fun hHeld => ?_)
                clear hK K
                refine norm_ (a' := ?_) ?_ ?_
                rotate_left
                · show Act.put _ (some 46) _ = _
                  simp only [Act.put, List.setIfInBounds_toArray, List.set_cons_zero, List.set_cons_succ, i64_w, i32_w]
                  rfl
                refine pure_ (i := 13) (N := some 47) (v := ?_) (a' := ?_) #[true, true, true, true, true, true, true, true, true, true, true, true, true, true, false, false, false, false, false, false, false, false, false, false, false, false, false, false, false, false] rfl rfl (any_of HT_.out (by kernel_rfl)) (fun _ _ _ h => h) (Or.inl ⟨by rfl, ?_⟩) ?_ ?_
                rotate_left
                · intro w'
                  go_simp
                  with_reducible rfl
                rotate_left
                · simp only [Act.put, List.setIfInBounds_toArray, List.set_cons_zero, List.set_cons_succ, i64_w, i32_w]
                  rfl
                refine pure_ (i := 14) (N := some 48) (v := ?_) (a' := ?_) #[true, true, true, true, true, true, true, true, true, true, true, true, true, true, true, false, false, false, false, false, false, false, false, false, false, false, false, false, false, false] rfl rfl (any_of HT_.out (by kernel_rfl)) (fun _ _ _ h => h) (Or.inl ⟨by rfl, ?_⟩) ?_ ?_
                rotate_left
                · intro w'
                  go_simp
                  with_reducible rfl
                rotate_left
                · simp only [Act.put, List.setIfInBounds_toArray, List.set_cons_zero, List.set_cons_succ, i64_w, i32_w]
                  rfl
                refine pure_ (i := 15) (N := some 49) (v := ?_) (a' := ?_) #[true, true, true, true, true, true, true, true, true, true, true, true, true, true, true, true, false, false, false, false, false, false, false, false, false, false, false, false, false, false] rfl rfl (any_of HT_.out (by kernel_rfl)) (fun _ _ _ h => h) (Or.inl ⟨by rfl, ?_⟩) ?_ ?_
                rotate_left
                · intro w'
                  go_simp
                  with_reducible rfl
                rotate_left
                · simp only [Act.put, List.setIfInBounds_toArray, List.set_cons_zero, List.set_cons_succ, i64_w, i32_w]
                  rfl
                refine pure_ (i := 16) (N := some 50) (v := undef) (a' := ?_) #[true, true, true, true, true, true, true, true, true, true, true, true, true, true, true, true, true, false, false, false, false, false, false, false, false, false, false, false, false, false] rfl rfl (any_of HT_.out (by kernel_rfl)) (fun _ _ _ h => h) (Or.inr ⟨by rfl, rfl⟩) ?_ ?_
                rotate_left
                · simp only [Act.put, List.setIfInBounds_toArray, List.set_cons_zero, List.set_cons_succ, i64_w, i32_w]
                  rfl
                refine pure_ (i := 17) (N := some 51) (v := undef) (a' := ?_) #[true, true, true, true, true, true, true, true, true, true, true, true, true, true, true, true, true, true, false, false, false, false, false, false, false, false, false, false, false, false] rfl rfl (any_of HT_.out (by kernel_rfl)) (fun _ _ _ h => h) (Or.inr ⟨by rfl, rfl⟩) ?_ ?_
                rotate_left
                · simp only [Act.put, List.setIfInBounds_toArray, List.set_cons_zero, List.set_cons_succ, i64_w, i32_w]
                  rfl
                refine pure_ (i := 18) (N := some 52) (v := undef) (a' := ?_) #[true, true, true, true, true, true, true, true, true, true, true, true, true, true, true, true, true, true, true, false, false, false, false, false, false, false, false, false, false, false] rfl rfl (any_of HT_.out (by kernel_rfl)) (fun _ _ _ h => h) (Or.inr ⟨by rfl, rfl⟩) ?_ ?_
                rotate_left
                · simp only [Act.put, List.setIfInBounds_toArray, List.set_cons_zero, List.set_cons_succ, i64_w, i32_w]
                  rfl
                refine pure_ (i := 19) (N := some 53) (v := undef) (a' := ?_) #[true, true, true, true, true, true, true, true, true, true, true, true, true, true, true, true, true, true, true, true, false, false, false, false, false, false, false, false, false, false] rfl rfl (any_of HT_.out (by kernel_rfl)) (fun _ _ _ h => h) (Or.inr ⟨by rfl, rfl⟩) ?_ ?_
                rotate_left
                · simp only [Act.put, List.setIfInBounds_toArray, List.set_cons_zero, List.set_cons_succ, i64_w, i32_w]
                  rfl
                refine pure_ (i := 20) (N := some 54) (v := undef) (a' := ?_) #[true, true, true, true, true, true, true, true, true, true, true, true, true, true, true, true, true, true, true, true, true, false, false, false, false, false, false, false, false, false] rfl rfl (any_of HT_.out (by kernel_rfl)) (fun _ _ _ h => h) (Or.inr ⟨by rfl, rfl⟩) ?_ ?_
                rotate_left
                · simp only [Act.put, List.setIfInBounds_toArray, List.set_cons_zero, List.set_cons_succ, i64_w, i32_w]
                  rfl
                refine pure_ (i := 21) (N := some 55) (v := undef) (a' := ?_) #[true, true, true, true, true, true, true, true, true, true, true, true, true, true, true, true, true, true, true, true, true, true, false, false, false, false, false, false, false, false] rfl rfl (any_of HT_.out (by kernel_rfl)) (fun _ _ _ h => h) (Or.inr ⟨by rfl, rfl⟩) ?_ ?_
                rotate_left
                · simp only [Act.put, List.setIfInBounds_toArray, List.set_cons_zero, List.set_cons_succ, i64_w, i32_w]
                  rfl
                refine pure_ (i := 22) (N := some 56) (v := undef) (a' := ?_) #[true, true, true, true, true, true, true, true, true, true, true, true, true, true, true, true, true, true, true, true, true, true, true, false, false, false, false, false, false, false] rfl rfl (any_of HT_.out (by kernel_rfl)) (fun _ _ _ h => h) (Or.inr ⟨by rfl, rfl⟩) ?_ ?_
                rotate_left
                · simp only [Act.put, List.setIfInBounds_toArray, List.set_cons_zero, List.set_cons_succ, i64_w, i32_w]
                  rfl
                refine pure_ (i := 23) (N := some 57) (v := undef) (a' := ?_) #[true, true, true, true, true, true, true, true, true, true, true, true, true, true, true, true, true, true, true, true, true, true, true, true, false, false, false, false, false, false] rfl rfl (any_of HT_.out (by kernel_rfl)) (fun _ _ _ h => h) (Or.inr ⟨by rfl, rfl⟩) ?_ ?_
                rotate_left
                · simp only [Act.put, List.setIfInBounds_toArray, List.set_cons_zero, List.set_cons_succ, i64_w, i32_w]
                  rfl
                refine pure_ (i := 24) (N := some 58) (v := undef) (a' := ?_) #[true, true, true, true, true, true, true, true, true, true, true, true, true, true, true, true, true, true, true, true, true, true, true, true, true, false, false, false, false, false] rfl rfl (any_of HT_.out (by kernel_rfl)) (fun _ _ _ h => h) (Or.inr ⟨by rfl, rfl⟩) ?_ ?_
                rotate_left
                · simp only [Act.put, List.setIfInBounds_toArray, List.set_cons_zero, List.set_cons_succ, i64_w, i32_w]
                  rfl
                refine pure_ (i := 25) (N := some 59) (v := undef) (a' := ?_) #[true, true, true, true, true, true, true, true, true, true, true, true, true, true, true, true, true, true, true, true, true, true, true, true, true, true, false, false, false, false] rfl rfl (any_of HT_.out (by kernel_rfl)) (fun _ _ _ h => h) (Or.inr ⟨by rfl, rfl⟩) ?_ ?_
                rotate_left
                · simp only [Act.put, List.setIfInBounds_toArray, List.set_cons_zero, List.set_cons_succ, i64_w, i32_w]
                  rfl
                refine pure_ (i := 26) (N := some 60) (v := undef) (a' := ?_) #[true, true, true, true, true, true, true, true, true, true, true, true, true, true, true, true, true, true, true, true, true, true, true, true, true, true, true, false, false, false] rfl rfl (any_of HT_.out (by kernel_rfl)) (fun _ _ _ h => h) (Or.inr ⟨by rfl, rfl⟩) ?_ ?_
                rotate_left
                · simp only [Act.put, List.setIfInBounds_toArray, List.set_cons_zero, List.set_cons_succ, i64_w, i32_w]
                  rfl
                refine pure_ (i := 27) (N := some 61) (v := undef) (a' := ?_) #[true, true, true, true, true, true, true, true, true, true, true, true, true, true, true, true, true, true, true, true, true, true, true, true, true, true, true, true, false, false] rfl rfl (any_of HT_.out (by kernel_rfl)) (fun _ _ _ h => h) (Or.inr ⟨by rfl, rfl⟩) ?_ ?_
                rotate_left
                · simp only [Act.put, List.setIfInBounds_toArray, List.set_cons_zero, List.set_cons_succ, i64_w, i32_w]
                  rfl
                refine pure_ (i := 28) (N := some 62) (v := undef) (a' := ?_) #[true, true, true, true, true, true, true, true, true, true, true, true, true, true, true, true, true, true, true, true, true, true, true, true, true, true, true, true, true, false] rfl rfl (any_of HT_.out (by kernel_rfl)) (fun _ _ _ h => h) (Or.inr ⟨by rfl, rfl⟩) ?_ ?_
                rotate_left
                · simp only [Act.put, List.setIfInBounds_toArray, List.set_cons_zero, List.set_cons_succ, i64_w, i32_w]
                  rfl
                refine pure_ (i := 29) (N := some 63) (v := ?_) (a' := ?_) #[true, true, true, true, true, true, true, true, true, true, true, true, true, true, true, true, true, true, true, true, true, true, true, true, true, true, true, true, true, true] rfl rfl (any_of HT_.out (by kernel_rfl)) (fun _ _ _ h => h) (Or.inl ⟨by rfl, ?_⟩) ?_ ?_
                rotate_left
                · intro w'
                  go_simp
                  with_reducible rfl
                rotate_left
                · simp only [Act.put, List.setIfInBounds_toArray, List.set_cons_zero, List.set_cons_succ, i64_w, i32_w]
                  rfl
                refine done_ (done_of HT_.out (by kernel_rfl)) ?_
                go_wp2
                go_ret
                exact ⟨ret_bool hbad.out.symm, hbw.trans ((hbW.drew.trans (hbx.mono hbW.drew.size)).mono (by omega))⟩
              | true =>
                rw [q3] at HV
                by_cases q4 : k = 0
                · have s4 : decide (0 < k) = false := decide_eq_false (by omega)
                  have s5 : decide ((0 : Int) < (k : Int)) = false := decide_eq_false (by omega)
                  refine start_ (n := 30) (S := fun w' => w'.cell? ⟨gv, 0, none⟩ = some (.string x.key) ∧ w'.cell? ⟨gv, 1, none⟩ = some (.int .i64 x.seq) ∧ w'.cell? ⟨gv, 2, none⟩ = some (.bool x.gone) ∧ w'.cell? ⟨gv, 3, none⟩ = some (.string x.data) ∧ w'.cell? ⟨gv, 4, none⟩ = some (.slice A4 x.pairs.length c4) ∧ w'.cell? ⟨w.heap.size, 0, none⟩ = some (.int .i64 nx) ∧ w'.cell? ⟨w.heap.size, 1, none⟩ = some (.slice (some ad) l.length c)) (ds := []) #[false, false, false, false, false, false, false, false, false, false, false, false, false, false, false, false, false, false, false, false, false, false, false, false, false, false, false, false, false, false] (by kernel_rfl) rfl rfl ⟨v0, v1, v2, v3, v4, b0, b1⟩ (fun hHeld => ?_)
                  refine with_tabW bR.tab7 bR.bits7 (fun HT_ HW_ => ?_)
                  refine pure_ (i := 0) (N := some 34) (v := ?_) (a' := ?_) #[true, false, false, false, false, false, false, false, false, false, false, false, false, false, false, false, false, false, false, false, false, false, false, false, false, false, false, false, false, false] rfl rfl (any_of HT_.out (by kernel_rfl)) (fun _ _ _ h => h) (Or.inl ⟨by rfl, ?_⟩) ?_ ?_
                  rotate_left
                  · intro w'
                    go_simp
                    with_reducible rfl
                  rotate_left
                  · simp only [Act.put, List.setIfInBounds_toArray, List.set_cons_zero, List.set_cons_succ, i64_w, i32_w]
                    rfl
                  refine take_ (i := 1) (N := some 35) (v := ?_) (a' := ?_) #[true, true, false, false, false, false, false, false, false, false, false, false, false, false, false, false, false, false, false, false, false, false, false, false, false, false, false, false, false, false] rfl rfl (take_ofW HT_.out HW_.out (by kernel_rfl)) (fun _ _ _ h => h) (Or.inl ⟨by rfl, ?_⟩) hHeld ?_ ?_
                  rotate_left
                  · rintro w' ⟨s0, s1, s2, s3, s4, s5, s6⟩
                    go_simp
                    with_reducible rfl
                  rotate_left
                  · simp only [Act.put, List.setIfInBounds_toArray, List.set_cons_zero, List.set_cons_succ, i64_w, i32_w]
                    rfl
                  refine pure_ (i := 2) (N := some 36) (v := ?_) (a' := ?_) #[true, true, true, false, false, false, false, false, false, false, false, false, false, false, false, false, false, false, false, false, false, false, false, false, false, false, false, false, false, false] rfl rfl (any_of HT_.out (by kernel_rfl)) (fun _ _ _ h => h) (Or.inl ⟨by rfl, ?_⟩) ?_ ?_
                  rotate_left
                  · intro w'
                    go_simp
                    with_reducible rfl
                  rotate_left
                  · simp only [Act.put, List.setIfInBounds_toArray, List.set_cons_zero, List.set_cons_succ, i64_w, i32_w]
                    rfl
                  refine pure_ (i := 3) (N := some 37) (v := ?_) (a' := ?_) #[true, true, true, true, false, false, false, false, false, false, false, false, false, false, false, false, false, false, false, false, false, false, false, false, false, false, false, false, false, false] rfl rfl (any_of HT_.out (by kernel_rfl)) (fun _ _ _ h => h) (Or.inl ⟨by rfl, ?_⟩) ?_ ?_
                  rotate_left
                  · intro w'
                    go_simp
                    with_reducible rfl
                  rotate_left
                  · simp only [Act.put, List.setIfInBounds_toArray, List.set_cons_zero, List.set_cons_succ, i64_w, i32_w]
                    rfl
                  refine pure_ (i := 4) (N := some 38) (v := ?_) (a' := ?_) #[true, true, true, true, true, false, false, false, false, false, false, false, false, false, false, false, false, false, false, false, false, false, false, false, false, false, false, false, false, false] rfl rfl (any_of HT_.out (by kernel_rfl)) (fun _ _ _ h => h) (Or.inl ⟨by rfl, ?_⟩) ?_ ?_
                  rotate_left
                  · intro w'
                    go_simp
                    with_reducible rfl
                  rotate_left
                  · simp only [Act.put, List.setIfInBounds_toArray, List.set_cons_zero, List.set_cons_succ, i64_w, i32_w]
                    rfl
                  refine pure_ (i := 6) (N := some 40) (v := ?_) (a' := ?_) #[true, true, true, true, true, false, true, false, false, false, false, false, false, false, false, false, false, false, false, false, false, false, false, false, false, false, false, false, false, false] rfl rfl (any_of HT_.out (by kernel_rfl)) (fun _ _ _ h => h) (Or.inl ⟨by rfl, ?_⟩) ?_ ?_
                  rotate_left
                  · intro w'
                    go_simp
                    with_reducible rfl
                  rotate_left
                  · simp only [Act.put, List.setIfInBounds_toArray, List.set_cons_zero, List.set_cons_succ, i64_w, i32_w]
                    rfl
                  refine take_ (i := 5) (N := some 39) (v := ?_) (a' := ?_) #[true, true, true, true, true, true, true, false, false, false, false, false, false, false, false, false, false, false, false, false, false, false, false, false, false, false, false, false, false, false] rfl rfl (take_ofW HT_.out HW_.out (by kernel_rfl)) (fun _ _ _ h => h) (Or.inl ⟨by rfl, ?_⟩) hHeld ?_ ?_
                  rotate_left
                  · rintro w' ⟨s0, s1, s2, s3, s4, s5, s6⟩
                    go_simp
                    with_reducible rfl
                  rotate_left
                  · simp only [Act.put, List.setIfInBounds_toArray, List.set_cons_zero, List.set_cons_succ, i64_w, i32_w]
                    rfl
                  refine take_ (i := 7) (N := some 41) (v := ?_) (a' := ?_) #[true, true, true, true, true, true, true, true, false, false, false, false, false, false, false, false, false, false, false, false, false, false, false, false, false, false, false, false, false, false] rfl rfl (take_ofW HT_.out HW_.out (by kernel_rfl)) (fun _ _ _ h => h) (Or.inl ⟨by rfl, ?_⟩) hHeld ?_ ?_
                  rotate_left
                  · rintro w' ⟨s0, s1, s2, s3, s4, s5, s6⟩
                    go_simp
                    with_reducible rfl
                  rotate_left
                  · simp only [Act.put, List.setIfInBounds_toArray, List.set_cons_zero, List.set_cons_succ, i64_w, i32_w]
                    rfl
                  refine pure_ (i := 8) (N := some 42) (v := ?_) (a' := ?_) #[true, true, true, true, true, true, true, true, true, false, false, false, false, false, false, false, false, false, false, false, false, false, false, false, false, false, false, false, false, false] rfl rfl (any_of HT_.out (by kernel_rfl)) (fun _ _ _ h => h) (Or.inl ⟨by rfl, ?_⟩) ?_ ?_
                  rotate_left
                  · intro w'
                    go_simp
                    with_reducible rfl
                  rotate_left
                  · simp only [Act.put, List.setIfInBounds_toArray, List.set_cons_zero, List.set_cons_succ, i64_w, i32_w]
                    rfl
                  refine pure_ (i := 9) (N := some 43) (v := ?_) (a' := ?_) #[true, true, true, true, true, true, true, true, true, true, false, false, false, false, false, false, false, false, false, false, false, false, false, false, false, false, false, false, false, false] rfl rfl (any_of HT_.out (by kernel_rfl)) (fun _ _ _ h => h) (Or.inl ⟨by rfl, ?_⟩) ?_ ?_
                  rotate_left
                  · intro w'
                    go_simp
                    with_reducible rfl
                  rotate_left
                  · simp only [Act.put, List.setIfInBounds_toArray, List.set_cons_zero, List.set_cons_succ, i64_w, i32_w]
                    rfl
                  refine pure_ (i := 10) (N := some 44) (v := ?_) (a' := ?_) #[true, true, true, true, true, true, true, true, true, true, true, false, false, false, false, false, false, false, false, false, false, false, false, false, false, false, false, false, false, false] rfl rfl (any_of HT_.out (by kernel_rfl)) (fun _ _ _ h => h) (Or.inl ⟨by rfl, ?_⟩) ?_ ?_
                  rotate_left
                  · intro w'
                    go_simp
                    with_reducible rfl
                  rotate_left
                  · simp only [Act.put, List.setIfInBounds_toArray, List.set_cons_zero, List.set_cons_succ, i64_w, i32_w]
                    rfl
                  refine take_ (i := 11) (N := some 45) (v := ?_) (a' := ?_) #[true, true, true, true, true, true, true, true, true, true, true, true, false, false, false, false, false, false, false, false, false, false, false, false, false, false, false, false, false, false] rfl rfl (take_ofW HT_.out HW_.out (by kernel_rfl)) (fun _ _ _ h => h) (Or.inl ⟨by rfl, ?_⟩) hHeld ?_ ?_
                  rotate_left
                  · rintro w' ⟨s0, s1, s2, s3, s4, s5, s6⟩
                    go_simp
                    with_reducible rfl
                  rotate_left
                  · simp only [Act.put, List.setIfInBounds_toArray, List.set_cons_zero, List.set_cons_succ, i64_w, i32_w]
                    rfl
                  refine one_ (i := 12) (N := some 46) #[true, true, true, true, true, true, true, true, true, true, true, true, true, false, false, false, false, false, false, false, false, false, false, false, false, false, false, false, false, false] rfl rfl (one_of HT_.out (by kernel_rfl)) (by decide) (fun K hK => ?_)
                  refine goes_ Try.func45 (by kernel_rfl) rfl #[x.val A4 c4] (by rfl) rfl rfl (by simp only [List.map_toArray, List.map_cons, List.map_nil]; rfl) ?_
                  with_reducible refine ((HV _ (Below.refl _ _).drew).out).mono ?_
                  rintro e w3 ⟨r, rfl, hr, hb⟩
                  refine ⟨_, rfl, ?_⟩
                  have hbx := hb
                  have r1 := by_ver hr
                  refine hK.out _ _ ⟨pw_cell_below hb (hHeld.1), pw_cell_below hb (hHeld.2.1), pw_cell_below hb (hHeld.2.2.1), pw_cell_below hb (hHeld.2.2.2.1), pw_cell_below hb (hHeld.2.2.2.2.1), pw_cell_below hb (hHeld.2.2.2.2.2.1), pw_cell_below hb (hHeld.2.2.2.2.2.2)⟩ (fun hHeld => ?_)
                  clear hK K
                  refine norm_ (a' := ?_) ?_ ?_
                  rotate_left
                  · show Act.put _ (some 46) _ = _
                    simp only [Act.put, List.setIfInBounds_toArray, List.set_cons_zero, List.set_cons_succ, i64_w, i32_w]
                    rfl
                  refine pure_ (i := 13) (N := some 47) (v := ?_) (a' := ?_) #[true, true, true, true, true, true, true, true, true, true, true, true, true, true, false, false, false, false, false, false, false, false, false, false, false, false, false, false, false, false] rfl rfl (any_of HT_.out (by kernel_rfl)) (fun _ _ _ h => h) (Or.inl ⟨by rfl, ?_⟩) ?_ ?_
                  rotate_left
                  · intro w'
                    go_simp
                    with_reducible rfl
                  rotate_left
                  · simp only [Act.put, List.setIfInBounds_toArray, List.set_cons_zero, List.set_cons_succ, i64_w, i32_w]
                    rfl
                  refine pure_ (i := 14) (N := some 48) (v := ?_) (a' := ?_) #[true, true, true, true, true, true, true, true, true, true, true, true, true, true, true, false, false, false, false, false, false, false, false, false, false, false, false, false, false, false] rfl rfl (any_of HT_.out (by kernel_rfl)) (fun _ _ _ h => h) (Or.inl ⟨by rfl, ?_⟩) ?_ ?_
                  rotate_left
                  · intro w'
                    go_simp
                    with_reducible rfl
                  rotate_left
                  · simp only [Act.put, List.setIfInBounds_toArray, List.set_cons_zero, List.set_cons_succ, i64_w, i32_w]
                    rfl
                  refine pure_ (i := 15) (N := some 49) (v := ?_) (a' := ?_) #[true, true, true, true, true, true, true, true, true, true, true, true, true, true, true, true, false, false, false, false, false, false, false, false, false, false, false, false, false, false] rfl rfl (any_of HT_.out (by kernel_rfl)) (fun _ _ _ h => h) (Or.inl ⟨by rfl, ?_⟩) ?_ ?_
                  rotate_left
                  · intro w'
                    go_simp
                    with_reducible rfl
                  rotate_left
                  · simp only [Act.put, List.setIfInBounds_toArray, List.set_cons_zero, List.set_cons_succ, i64_w, i32_w]
                    rfl
                  refine pure_ (i := 16) (N := some 50) (v := ?_) (a' := ?_) #[true, true, true, true, true, true, true, true, true, true, true, true, true, true, true, true, true, false, false, false, false, false, false, false, false, false, false, false, false, false] rfl rfl (any_of HT_.out (by kernel_rfl)) (fun _ _ _ h => h) (Or.inl ⟨by rfl, ?_⟩) ?_ ?_
                  rotate_left
                  · intro w'
                    go_simp
                    with_reducible rfl
                  rotate_left
                  · simp only [Act.put, List.setIfInBounds_toArray, List.set_cons_zero, List.set_cons_succ, i64_w, i32_w]
                    rfl
                  refine pure_ (i := 17) (N := some 51) (v := ?_) (a' := ?_) #[true, true, true, true, true, true, true, true, true, true, true, true, true, true, true, true, true, true, false, false, false, false, false, false, false, false, false, false, false, false] rfl rfl (any_of HT_.out (by kernel_rfl)) (fun _ _ _ h => h) (Or.inl ⟨by rfl, ?_⟩) ?_ ?_
                  rotate_left
                  · intro w'
                    go_simp
                    with_reducible rfl
                  rotate_left
                  · simp only [Act.put, List.setIfInBounds_toArray, List.set_cons_zero, List.set_cons_succ, i64_w, i32_w]
                    rfl
                  refine pure_ (i := 18) (N := some 52) (v := ?_) (a' := ?_) #[true, true, true, true, true, true, true, true, true, true, true, true, true, true, true, true, true, true, true, false, false, false, false, false, false, false, false, false, false, false] rfl rfl (any_of HT_.out (by kernel_rfl)) (fun _ _ _ h => h) (Or.inl ⟨by rfl, ?_⟩) ?_ ?_
                  rotate_left
                  · intro w'
                    go_simp
                    with_reducible rfl
                  rotate_left
                  · simp only [Act.put, List.setIfInBounds_toArray, List.set_cons_zero, List.set_cons_succ, i64_w, i32_w]
                    rfl
                  refine pure_ (i := 19) (N := some 53) (v := undef) (a' := ?_) #[true, true, true, true, true, true, true, true, true, true, true, true, true, true, true, true, true, true, true, true, false, false, false, false, false, false, false, false, false, false] rfl rfl (any_of HT_.out (by kernel_rfl)) (fun _ _ _ h => h) (Or.inr ⟨by rfl, rfl⟩) ?_ ?_
                  rotate_left
                  · simp only [Act.put, List.setIfInBounds_toArray, List.set_cons_zero, List.set_cons_succ, i64_w, i32_w]
                    rfl
                  refine pure_ (i := 20) (N := some 54) (v := undef) (a' := ?_) #[true, true, true, true, true, true, true, true, true, true, true, true, true, true, true, true, true, true, true, true, true, false, false, false, false, false, false, false, false, false] rfl rfl (any_of HT_.out (by kernel_rfl)) (fun _ _ _ h => h) (Or.inr ⟨by rfl, rfl⟩) ?_ ?_
                  rotate_left
                  · simp only [Act.put, List.setIfInBounds_toArray, List.set_cons_zero, List.set_cons_succ, i64_w, i32_w]
                    rfl
                  refine pure_ (i := 21) (N := some 55) (v := undef) (a' := ?_) #[true, true, true, true, true, true, true, true, true, true, true, true, true, true, true, true, true, true, true, true, true, true, false, false, false, false, false, false, false, false] rfl rfl (any_of HT_.out (by kernel_rfl)) (fun _ _ _ h => h) (Or.inr ⟨by rfl, rfl⟩) ?_ ?_
                  rotate_left
                  · simp only [Act.put, List.setIfInBounds_toArray, List.set_cons_zero, List.set_cons_succ, i64_w, i32_w]
                    rfl
                  refine pure_ (i := 22) (N := some 56) (v := undef) (a' := ?_) #[true, true, true, true, true, true, true, true, true, true, true, true, true, true, true, true, true, true, true, true, true, true, true, false, false, false, false, false, false, false] rfl rfl (any_of HT_.out (by kernel_rfl)) (fun _ _ _ h => h) (Or.inr ⟨by rfl, rfl⟩) ?_ ?_
                  rotate_left
                  · simp only [Act.put, List.setIfInBounds_toArray, List.set_cons_zero, List.set_cons_succ, i64_w, i32_w]
                    rfl
                  refine pure_ (i := 23) (N := some 57) (v := undef) (a' := ?_) #[true, true, true, true, true, true, true, true, true, true, true, true, true, true, true, true, true, true, true, true, true, true, true, true, false, false, false, false, false, false] rfl rfl (any_of HT_.out (by kernel_rfl)) (fun _ _ _ h => h) (Or.inr ⟨by rfl, rfl⟩) ?_ ?_
                  rotate_left
                  · simp only [Act.put, List.setIfInBounds_toArray, List.set_cons_zero, List.set_cons_succ, i64_w, i32_w]
                    rfl
                  refine pure_ (i := 24) (N := some 58) (v := undef) (a' := ?_) #[true, true, true, true, true, true, true, true, true, true, true, true, true, true, true, true, true, true, true, true, true, true, true, true, true, false, false, false, false, false] rfl rfl (any_of HT_.out (by kernel_rfl)) (fun _ _ _ h => h) (Or.inr ⟨by rfl, rfl⟩) ?_ ?_
                  rotate_left
                  · simp only [Act.put, List.setIfInBounds_toArray, List.set_cons_zero, List.set_cons_succ, i64_w, i32_w]
                    rfl
                  refine pure_ (i := 25) (N := some 59) (v := undef) (a' := ?_) #[true, true, true, true, true, true, true, true, true, true, true, true, true, true, true, true, true, true, true, true, true, true, true, true, true, true, false, false, false, false] rfl rfl (any_of HT_.out (by kernel_rfl)) (fun _ _ _ h => h) (Or.inr ⟨by rfl, rfl⟩) ?_ ?_
                  rotate_left
                  · simp only [Act.put, List.setIfInBounds_toArray, List.set_cons_zero, List.set_cons_succ, i64_w, i32_w]
                    rfl
                  refine pure_ (i := 26) (N := some 60) (v := undef) (a' := ?_) #[true, true, true, true, true, true, true, true, true, true, true, true, true, true, true, true, true, true, true, true, true, true, true, true, true, true, true, false, false, false] rfl rfl (any_of HT_.out (by kernel_rfl)) (fun _ _ _ h => h) (Or.inr ⟨by rfl, rfl⟩) ?_ ?_
                  rotate_left
                  · simp only [Act.put, List.setIfInBounds_toArray, List.set_cons_zero, List.set_cons_succ, i64_w, i32_w]
                    rfl
                  refine pure_ (i := 27) (N := some 61) (v := undef) (a' := ?_) #[true, true, true, true, true, true, true, true, true, true, true, true, true, true, true, true, true, true, true, true, true, true, true, true, true, true, true, true, false, false] rfl rfl (any_of HT_.out (by kernel_rfl)) (fun _ _ _ h => h) (Or.inr ⟨by rfl, rfl⟩) ?_ ?_
                  rotate_left
                  · simp only [Act.put, List.setIfInBounds_toArray, List.set_cons_zero, List.set_cons_succ, i64_w, i32_w]
                    rfl
                  refine pure_ (i := 28) (N := some 62) (v := ?_) (a' := ?_) #[true, true, true, true, true, true, true, true, true, true, true, true, true, true, true, true, true, true, true, true, true, true, true, true, true, true, true, true, true, false] rfl rfl (any_of HT_.out (by kernel_rfl)) (fun _ _ _ h => h) (Or.inl ⟨by rfl, ?_⟩) ?_ ?_
                  rotate_left
                  · intro w'
                    go_simp
                    with_reducible rfl
                  rotate_left
                  · simp only [Act.put, List.setIfInBounds_toArray, List.set_cons_zero, List.set_cons_succ, i64_w, i32_w]
                    rfl
                  refine pure_ (i := 29) (N := some 63) (v := ?_) (a' := ?_) #[true, true, true, true, true, true, true, true, true, true, true, true, true, true, true, true, true, true, true, true, true, true, true, true, true, true, true, true, true, true] rfl rfl (any_of HT_.out (by kernel_rfl)) (fun _ _ _ h => h) (Or.inl ⟨by rfl, ?_⟩) ?_ ?_
                  rotate_left
                  · intro w'
                    go_simp
                    with_reducible rfl
                  rotate_left
                  · simp only [Act.put, List.setIfInBounds_toArray, List.set_cons_zero, List.set_cons_succ, i64_w, i32_w]
                    rfl
                  refine done_ (done_of HT_.out (by kernel_rfl)) ?_
                  have z1 := hHeld.2.1
                  have own3 := own_below (w := W.drew) own1 hbx hszW
                  have bel3 : Below wm.heap.size wm w3 := hbW.drew.trans (hbx.mono (Nat.le_of_succ_le hszW))
                  have hgs := World.block_lt_of_cell? w3 _ z1
                  have hs3 : wm.heap.size + 1 ≤ w3.heap.size := Nat.le_trans hgv (Nat.le_of_lt hgs)
                  have hkey : keyOf Try.prog 2 (.int .i64 x.seq) = some (.int .i64 x.seq) := keyOf_int_mk Try.underlying2 (wf_seq q1 q2 n2)
                  have hkm : k < maxLen := by unfold maxLen; omega
                  cases q6 : apartTo l (k) (k) with
                  | false =>
                    have hbad := Lib.hid (rightV_bad hlt (gd_no (nx := nx) HX.out (.inr (.inr (.inr (.inr q6))))))
                    have hc0 : ∀ c, D.atKey (.int .i64 x.seq) (.lit (.int .i64 0)) = .lit (.int .i64 c) → c = 1 := fun c hat => by rw [seen_at HS.out hk (by rw [HX.out]) hat, q6]; rfl
                    clear HV HP1
                    go_wp2_with (first
                      | (at_lookup; refine wpList_lookup_own_int _ rfl _ _ 66 rfl 2 3 .i64 lawI Try.underlying66 Try.underlying3 (zeroI _) wm.heap.size (k) _ rfl own3 _ _ rfl hkey ?_; intro c1 hat1 hwc1; obtain rfl := hc0 c1 hat1)
                      | (at_lookup; refine wpList_lookup_own_int _ rfl _ _ 66 rfl 2 3 .i64 lawI Try.underlying66 Try.underlying3 (zeroI _) wm.heap.size (k + 1) _ rfl hown1 _ _ rfl hkey ?_; intro c2 hat2 hwc2; obtain rfl : c2 = 2 := seen_two HS.out.1 hat2)
                      | (at_mapUpdate; refine wpList_mapUpdate_own _ rfl _ _ _ 66 rfl 2 3 lawI Try.underlying66 _ wm.heap.size (k) _ rfl own3 hkm _ _ _ rfl rfl hkey (.lit (.int .i64 2)) [] (plainElem_int Try.underlying3 (by decide)) ?_; intro w1 hown1 hgrow1; have z2 := (World.cell?_of_block (w := w3) (hgrow1.block gv hgs (fun e => by cases e; exact Nat.lt_irrefl _ hgv))).trans z1)
                      | go_in)
                    go_ret
                    exact ⟨ret_bool hbad.out.symm, hbw.trans ((bel3.grown hgrow1 (Nat.le_of_succ_le hs3) (fun k h => by cases h; exact Nat.le_refl _)).mono (Nat.le_trans (Nat.le_succ _) hww))⟩
                  | true =>
                    have hgood := Lib.hid (gd_yes (nx := nx) HX.out q3 q1 q2 (.inl q4) q6)
                    have hc0 : ∀ c, D.atKey (.int .i64 x.seq) (.lit (.int .i64 0)) = .lit (.int .i64 c) → c = 0 := fun c hat => by rw [seen_at HS.out hk (by rw [HX.out]) hat, q6]; rfl
                    clear HV HP1
                    go_wp2_with (first
                      | (at_lookup; refine wpList_lookup_own_int _ rfl _ _ 66 rfl 2 3 .i64 lawI Try.underlying66 Try.underlying3 (zeroI _) wm.heap.size (k) _ rfl own3 _ _ rfl hkey ?_; intro c1 hat1 hwc1; obtain rfl := hc0 c1 hat1)
                      | (at_lookup; refine wpList_lookup_own_int _ rfl _ _ 66 rfl 2 3 .i64 lawI Try.underlying66 Try.underlying3 (zeroI _) wm.heap.size (k + 1) _ rfl hown1 _ _ rfl hkey ?_; intro c2 hat2 hwc2; obtain rfl : c2 = 1 := seen_two HS.out.1 hat2)
                      | (at_mapUpdate; refine wpList_mapUpdate_own _ rfl _ _ _ 66 rfl 2 3 lawI Try.underlying66 _ wm.heap.size (k) _ rfl own3 hkm _ _ _ rfl rfl hkey (.lit (.int .i64 1)) [] (plainElem_int Try.underlying3 (by decide)) ?_; intro w1 hown1 hgrow1; have z2 := (World.cell?_of_block (w := w3) (hgrow1.block gv hgs (fun e => by cases e; exact Nat.lt_irrefl _ hgv))).trans z1)
                      | go_in)
                    go_roundw
                    case rel => exact ⟨k + 1, _, hlt, by go_num, HG.out.succ hgood.out, seen_succ HS.out hlt (by rw [HX.out]), hown1, bel3.grown hgrow1 (Nat.le_of_succ_le hs3) (fun k h => by cases h; exact Nat.le_refl _), Nat.le_trans hs3 hgrow1.size⟩
                    case measure => simp [intOf]; omega
                · have s4 : decide (0 < k) = true := decide_eq_true (by omega)
                  have s5 : decide ((0 : Int) < (k : Int)) = true := decide_eq_true (by omega)
                  obtain ⟨B4, d4, y0, y1, y2, y3, y4⟩ := (HP1 q4).out
                  have hyy : ∃ y, rdV l (k - 1) = y := ⟨_, rfl⟩
                  obtain ⟨y, hy⟩ := hyy
                  rw [hy] at y0 y1 y2 y3 y4
                  have HY := Lib.hid hy
                  clear hy
                  have hwj : ∀ j, k = j + 1 → wrap64 (j : Int) = (j : Int) := fun j hj => w64_nat (by omega)
                  obtain ⟨j, rfl⟩ : ∃ j, k = j + 1 := ⟨k - 1, by omega⟩
                  replace hwj := hwj j rfl
                  have hjl : j < l.length := Nat.lt_of_succ_lt hlt
                  have hjl2 : (j : Int) < (l.length : Int) := Int.ofNat_lt.2 hjl
                  rw [Nat.add_sub_cancel] at y0 y1 y2 y3 y4
                  have HA := fun w' => Lib.hid (ahead_any y x B4 A4 d4 c4 w')
                  cases q5 : va y x with
                  | false =>
                    have hbad := Lib.hid (rightV_bad hlt (gd_no (nx := nx) HX.out (.inr (.inr (.inr (.inl ⟨q4, by rw [HY.out]; exact q5⟩))))))
                    rw [q5] at HA
                    refine start_ (n := 30) (S := fun w' => w'.cell? ⟨gv, 0, none⟩ = some (.string x.key) ∧ w'.cell? ⟨gv, 1, none⟩ = some (.int .i64 x.seq) ∧ w'.cell? ⟨gv, 2, none⟩ = some (.bool x.gone) ∧ w'.cell? ⟨gv, 3, none⟩ = some (.string x.data) ∧ w'.cell? ⟨gv, 4, none⟩ = some (.slice A4 x.pairs.length c4) ∧ w'.cell? ⟨w.heap.size, 0, none⟩ = some (.int .i64 nx) ∧ w'.cell? ⟨w.heap.size, 1, none⟩ = some (.slice (some ad) l.length c) ∧ w'.cell? (ad.add (j * 5)) = some (.string y.key) ∧ w'.cell? ⟨(ad.add (j * 5)).block, (ad.add (j * 5)).off + 1, none⟩ = some (.int .i64 y.seq) ∧ w'.cell? ⟨(ad.add (j * 5)).block, (ad.add (j * 5)).off + 2, none⟩ = some (.bool y.gone) ∧ w'.cell? ⟨(ad.add (j * 5)).block, (ad.add (j * 5)).off + 3, none⟩ = some (.string y.data) ∧ w'.cell? ⟨(ad.add (j * 5)).block, (ad.add (j * 5)).off + 4, none⟩ = some (.slice B4 y.pairs.length d4)) (ds := []) #[false, false, false, false, false, false, false, false, false, false, false, false, false, false, false, false, false, false, false, false, false, false, false, false, false, false, false, false, false, false] (by kernel_rfl) rfl rfl ⟨v0, v1, v2, v3, v4, b0, b1, y0, y1, y2, y3, y4⟩ (fun hHeld => ?_)
                    refine with_tabW bR.tab7 bR.bits7 (fun HT_ HW_ => ?_)
                    refine pure_ (i := 0) (N := some 34) (v := ?_) (a' := ?_) #[true, false, false, false, false, false, false, false, false, false, false, false, false, false, false, false, false, false, false, false, false, false, false, false, false, false, false, false, false, false] rfl rfl (any_of HT_.out (by kernel_rfl)) (fun _ _ _ h => h) (Or.inl ⟨by rfl, ?_⟩) ?_ ?_
                    rotate_left
                    · intro w'
                      go_simp
                      with_reducible rfl
                    rotate_left
                    · simp only [Act.put, List.setIfInBounds_toArray, List.set_cons_zero, List.set_cons_succ, i64_w, i32_w]
                      rfl
                    refine take_ (i := 1) (N := some 35) (v := ?_) (a' := ?_) #[true, true, false, false, false, false, false, false, false, false, false, false, false, false, false, false, false, false, false, false, false, false, false, false, false, false, false, false, false, false] rfl rfl (take_ofW HT_.out HW_.out (by kernel_rfl)) (fun _ _ _ h => h) (Or.inl ⟨by rfl, ?_⟩) hHeld ?_ ?_
                    rotate_left
                    · rintro w' ⟨s0, s1, s2, s3, s4, s5, s6, s7, s8, s9, s10, s11⟩
                      go_simp
                      with_reducible rfl
                    rotate_left
                    · simp only [Act.put, List.setIfInBounds_toArray, List.set_cons_zero, List.set_cons_succ, i64_w, i32_w]
                      rfl
                    refine pure_ (i := 2) (N := some 36) (v := ?_) (a' := ?_) #[true, true, true, false, false, false, false, false, false, false, false, false, false, false, false, false, false, false, false, false, false, false, false, false, false, false, false, false, false, false] rfl rfl (any_of HT_.out (by kernel_rfl)) (fun _ _ _ h => h) (Or.inl ⟨by rfl, ?_⟩) ?_ ?_
                    rotate_left
                    · intro w'
                      go_simp
                      with_reducible rfl
                    rotate_left
                    · simp only [Act.put, List.setIfInBounds_toArray, List.set_cons_zero, List.set_cons_succ, i64_w, i32_w]
                      rfl
                    refine pure_ (i := 3) (N := some 37) (v := ?_) (a' := ?_) #[true, true, true, true, false, false, false, false, false, false, false, false, false, false, false, false, false, false, false, false, false, false, false, false, false, false, false, false, false, false] rfl rfl (any_of HT_.out (by kernel_rfl)) (fun _ _ _ h => h) (Or.inl ⟨by rfl, ?_⟩) ?_ ?_
                    rotate_left
                    · intro w'
                      go_simp
                      with_reducible rfl
                    rotate_left
                    · simp only [Act.put, List.setIfInBounds_toArray, List.set_cons_zero, List.set_cons_succ, i64_w, i32_w]
                      rfl
                    refine pure_ (i := 4) (N := some 38) (v := ?_) (a' := ?_) #[true, true, true, true, true, false, false, false, false, false, false, false, false, false, false, false, false, false, false, false, false, false, false, false, false, false, false, false, false, false] rfl rfl (any_of HT_.out (by kernel_rfl)) (fun _ _ _ h => h) (Or.inl ⟨by rfl, ?_⟩) ?_ ?_
                    rotate_left
                    · intro w'
                      go_simp
                      with_reducible rfl
                    rotate_left
                    · simp only [Act.put, List.setIfInBounds_toArray, List.set_cons_zero, List.set_cons_succ, i64_w, i32_w]
                      rfl
                    refine pure_ (i := 6) (N := some 40) (v := ?_) (a' := ?_) #[true, true, true, true, true, false, true, false, false, false, false, false, false, false, false, false, false, false, false, false, false, false, false, false, false, false, false, false, false, false] rfl rfl (any_of HT_.out (by kernel_rfl)) (fun _ _ _ h => h) (Or.inl ⟨by rfl, ?_⟩) ?_ ?_
                    rotate_left
                    · intro w'
                      go_simp
                      with_reducible rfl
                    rotate_left
                    · simp only [Act.put, List.setIfInBounds_toArray, List.set_cons_zero, List.set_cons_succ, i64_w, i32_w]
                      rfl
                    refine take_ (i := 5) (N := some 39) (v := ?_) (a' := ?_) #[true, true, true, true, true, true, true, false, false, false, false, false, false, false, false, false, false, false, false, false, false, false, false, false, false, false, false, false, false, false] rfl rfl (take_ofW HT_.out HW_.out (by kernel_rfl)) (fun _ _ _ h => h) (Or.inl ⟨by rfl, ?_⟩) hHeld ?_ ?_
                    rotate_left
                    · rintro w' ⟨s0, s1, s2, s3, s4, s5, s6, s7, s8, s9, s10, s11⟩
                      go_simp
                      with_reducible rfl
                    rotate_left
                    · simp only [Act.put, List.setIfInBounds_toArray, List.set_cons_zero, List.set_cons_succ, i64_w, i32_w]
                      rfl
                    refine take_ (i := 7) (N := some 41) (v := ?_) (a' := ?_) #[true, true, true, true, true, true, true, true, false, false, false, false, false, false, false, false, false, false, false, false, false, false, false, false, false, false, false, false, false, false] rfl rfl (take_ofW HT_.out HW_.out (by kernel_rfl)) (fun _ _ _ h => h) (Or.inl ⟨by rfl, ?_⟩) hHeld ?_ ?_
                    rotate_left
                    · rintro w' ⟨s0, s1, s2, s3, s4, s5, s6, s7, s8, s9, s10, s11⟩
                      go_simp
                      with_reducible rfl
                    rotate_left
                    · simp only [Act.put, List.setIfInBounds_toArray, List.set_cons_zero, List.set_cons_succ, i64_w, i32_w]
                      rfl
                    refine pure_ (i := 8) (N := some 42) (v := ?_) (a' := ?_) #[true, true, true, true, true, true, true, true, true, false, false, false, false, false, false, false, false, false, false, false, false, false, false, false, false, false, false, false, false, false] rfl rfl (any_of HT_.out (by kernel_rfl)) (fun _ _ _ h => h) (Or.inl ⟨by rfl, ?_⟩) ?_ ?_
                    rotate_left
                    · intro w'
                      go_simp
                      with_reducible rfl
                    rotate_left
                    · simp only [Act.put, List.setIfInBounds_toArray, List.set_cons_zero, List.set_cons_succ, i64_w, i32_w]
                      rfl
                    refine pure_ (i := 9) (N := some 43) (v := ?_) (a' := ?_) #[true, true, true, true, true, true, true, true, true, true, false, false, false, false, false, false, false, false, false, false, false, false, false, false, false, false, false, false, false, false] rfl rfl (any_of HT_.out (by kernel_rfl)) (fun _ _ _ h => h) (Or.inl ⟨by rfl, ?_⟩) ?_ ?_
                    rotate_left
                    · intro w'
                      go_simp
                      with_reducible rfl
                    rotate_left
                    · simp only [Act.put, List.setIfInBounds_toArray, List.set_cons_zero, List.set_cons_succ, i64_w, i32_w]
                      rfl
                    refine pure_ (i := 10) (N := some 44) (v := ?_) (a' := ?_) #[true, true, true, true, true, true, true, true, true, true, true, false, false, false, false, false, false, false, false, false, false, false, false, false, false, false, false, false, false, false] rfl rfl (any_of HT_.out (by kernel_rfl)) (fun _ _ _ h => h) (Or.inl ⟨by rfl, ?_⟩) ?_ ?_
                    rotate_left
                    · intro w'
                      go_simp
                      with_reducible rfl
                    rotate_left
                    · simp only [Act.put, List.setIfInBounds_toArray, List.set_cons_zero, List.set_cons_succ, i64_w, i32_w]
                      rfl
                    refine take_ (i := 11) (N := some 45) (v := ?_) (a' := ?_) #[true, true, true, true, true, true, true, true, true, true, true, true, false, false, false, false, false, false, false, false, false, false, false, false, false, false, false, false, false, false] rfl rfl (take_ofW HT_.out HW_.out (by kernel_rfl)) (fun _ _ _ h => h) (Or.inl ⟨by rfl, ?_⟩) hHeld ?_ ?_
                    rotate_left
                    · rintro w' ⟨s0, s1, s2, s3, s4, s5, s6, s7, s8, s9, s10, s11⟩
                      go_simp
                      with_reducible rfl
                    rotate_left
                    · simp only [Act.put, List.setIfInBounds_toArray, List.set_cons_zero, List.set_cons_succ, i64_w, i32_w]
                      rfl
                    refine one_ (i := 12) (N := some 46) #[true, true, true, true, true, true, true, true, true, true, true, true, true, false, false, false, false, false, false, false, false, false, false, false, false, false, false, false, false, false] rfl rfl (one_of HT_.out (by kernel_rfl)) (by decide) (fun K hK => ?_)
                    refine goes_ Try.func45 (by kernel_rfl) rfl #[x.val A4 c4] (by rfl) rfl rfl (by simp only [List.map_toArray, List.map_cons, List.map_nil]; rfl) ?_
                    with_reducible refine ((HV _ (Below.refl _ _).drew).out).mono ?_
                    rintro e w3 ⟨r, rfl, hr, hb⟩
                    refine ⟨_, rfl, ?_⟩
                    have hbx := hb
                    have r1 := by_ver hr
                    refine hK.out _ _ ⟨pw_cell_below hb (hHeld.1), pw_cell_below hb (hHeld.2.1), pw_cell_below hb (hHeld.2.2.1), pw_cell_below hb (hHeld.2.2.2.1), pw_cell_below hb (hHeld.2.2.2.2.1), pw_cell_below hb (hHeld.2.2.2.2.2.1), pw_cell_below hb (hHeld.2.2.2.2.2.2.1), pw_cell_below hb (hHeld.2.2.2.2.2.2.2.1), pw_cell_below hb (hHeld.2.2.2.2.2.2.2.2.1), pw_cell_below hb (hHeld.2.2.2.2.2.2.2.2.2.1), pw_cell_below hb (hHeld.2.2.2.2.2.2.2.2.2.2.1), pw_cell_below hb (hHeld.2.2.2.2.2.2.2.2.2.2.2)⟩ (fun hHeld => ?_)
                    clear hK K
                    refine norm_ (a' := ?_) ?_ ?_
                    rotate_left
                    · show Act.put _ (some 46) _ = _
                      simp only [Act.put, List.setIfInBounds_toArray, List.set_cons_zero, List.set_cons_succ, i64_w, i32_w]
                      rfl
                    refine pure_ (i := 13) (N := some 47) (v := ?_) (a' := ?_) #[true, true, true, true, true, true, true, true, true, true, true, true, true, true, false, false, false, false, false, false, false, false, false, false, false, false, false, false, false, false] rfl rfl (any_of HT_.out (by kernel_rfl)) (fun _ _ _ h => h) (Or.inl ⟨by rfl, ?_⟩) ?_ ?_
                    rotate_left
                    · intro w'
                      go_simp
                      with_reducible rfl
                    rotate_left
                    · simp only [Act.put, List.setIfInBounds_toArray, List.set_cons_zero, List.set_cons_succ, i64_w, i32_w]
                      rfl
                    refine pure_ (i := 14) (N := some 48) (v := ?_) (a' := ?_) #[true, true, true, true, true, true, true, true, true, true, true, true, true, true, true, false, false, false, false, false, false, false, false, false, false, false, false, false, false, false] rfl rfl (any_of HT_.out (by kernel_rfl)) (fun _ _ _ h => h) (Or.inl ⟨by rfl, ?_⟩) ?_ ?_
                    rotate_left
                    · intro w'
                      go_simp
                      with_reducible rfl
                    rotate_left
                    · simp only [Act.put, List.setIfInBounds_toArray, List.set_cons_zero, List.set_cons_succ, i64_w, i32_w]
                      rfl
                    refine pure_ (i := 15) (N := some 49) (v := ?_) (a' := ?_) #[true, true, true, true, true, true, true, true, true, true, true, true, true, true, true, true, false, false, false, false, false, false, false, false, false, false, false, false, false, false] rfl rfl (any_of HT_.out (by kernel_rfl)) (fun _ _ _ h => h) (Or.inl ⟨by rfl, ?_⟩) ?_ ?_
                    rotate_left
                    · intro w'
                      go_simp
                      with_reducible rfl
                    rotate_left
                    · simp only [Act.put, List.setIfInBounds_toArray, List.set_cons_zero, List.set_cons_succ, i64_w, i32_w]
                      rfl
                    refine pure_ (i := 16) (N := some 50) (v := ?_) (a' := ?_) #[true, true, true, true, true, true, true, true, true, true, true, true, true, true, true, true, true, false, false, false, false, false, false, false, false, false, false, false, false, false] rfl rfl (any_of HT_.out (by kernel_rfl)) (fun _ _ _ h => h) (Or.inl ⟨by rfl, ?_⟩) ?_ ?_
                    rotate_left
                    · intro w'
                      go_simp
                      with_reducible rfl
                    rotate_left
                    · simp only [Act.put, List.setIfInBounds_toArray, List.set_cons_zero, List.set_cons_succ, i64_w, i32_w]
                      rfl
                    refine pure_ (i := 17) (N := some 51) (v := ?_) (a' := ?_) #[true, true, true, true, true, true, true, true, true, true, true, true, true, true, true, true, true, true, false, false, false, false, false, false, false, false, false, false, false, false] rfl rfl (any_of HT_.out (by kernel_rfl)) (fun _ _ _ h => h) (Or.inl ⟨by rfl, ?_⟩) ?_ ?_
                    rotate_left
                    · intro w'
                      go_simp
                      with_reducible rfl
                    rotate_left
                    · simp only [Act.put, List.setIfInBounds_toArray, List.set_cons_zero, List.set_cons_succ, i64_w, i32_w]
                      rfl
                    refine pure_ (i := 18) (N := some 52) (v := ?_) (a' := ?_) #[true, true, true, true, true, true, true, true, true, true, true, true, true, true, true, true, true, true, true, false, false, false, false, false, false, false, false, false, false, false] rfl rfl (any_of HT_.out (by kernel_rfl)) (fun _ _ _ h => h) (Or.inl ⟨by rfl, ?_⟩) ?_ ?_
                    rotate_left
                    · intro w'
                      go_simp
                      with_reducible rfl
                    rotate_left
                    · simp only [Act.put, List.setIfInBounds_toArray, List.set_cons_zero, List.set_cons_succ, i64_w, i32_w]
                      rfl
                    refine pure_ (i := 19) (N := some 53) (v := ?_) (a' := ?_) #[true, true, true, true, true, true, true, true, true, true, true, true, true, true, true, true, true, true, true, true, false, false, false, false, false, false, false, false, false, false] rfl rfl (any_of HT_.out (by kernel_rfl)) (fun _ _ _ h => h) (Or.inl ⟨by rfl, ?_⟩) ?_ ?_
                    rotate_left
                    · intro w'
                      go_simp
                      with_reducible rfl
                    rotate_left
                    · simp only [Act.put, List.setIfInBounds_toArray, List.set_cons_zero, List.set_cons_succ, i64_w, i32_w]
                      rfl
                    refine pure_ (i := 21) (N := some 55) (v := ?_) (a' := ?_) #[true, true, true, true, true, true, true, true, true, true, true, true, true, true, true, true, true, true, true, true, false, true, false, false, false, false, false, false, false, false] rfl rfl (any_of HT_.out (by kernel_rfl)) (fun _ _ _ h => h) (Or.inl ⟨by rfl, ?_⟩) ?_ ?_
                    rotate_left
                    · intro w'
                      go_simp
                      with_reducible rfl
                    rotate_left
                    · simp only [Act.put, List.setIfInBounds_toArray, List.set_cons_zero, List.set_cons_succ, i64_w, i32_w]
                      rfl
                    refine pure_ (i := 22) (N := some 56) (v := ?_) (a' := ?_) #[true, true, true, true, true, true, true, true, true, true, true, true, true, true, true, true, true, true, true, true, false, true, true, false, false, false, false, false, false, false] rfl rfl (any_of HT_.out (by kernel_rfl)) (fun _ _ _ h => h) (Or.inl ⟨by rfl, ?_⟩) ?_ ?_
                    rotate_left
                    · intro w'
                      go_simp
                      with_reducible rfl
                    rotate_left
                    · simp only [Act.put, List.setIfInBounds_toArray, List.set_cons_zero, List.set_cons_succ, i64_w, i32_w]
                      rfl
                    refine take_ (i := 20) (N := some 54) (v := ?_) (a' := ?_) #[true, true, true, true, true, true, true, true, true, true, true, true, true, true, true, true, true, true, true, true, true, true, true, false, false, false, false, false, false, false] rfl rfl (take_ofW HT_.out HW_.out (by kernel_rfl)) (fun _ _ _ h => h) (Or.inl ⟨by rfl, ?_⟩) hHeld ?_ ?_
                    rotate_left
                    · rintro w' ⟨s0, s1, s2, s3, s4, s5, s6, s7, s8, s9, s10, s11⟩
                      go_simp
                      with_reducible rfl
                    rotate_left
                    · simp only [Act.put, List.setIfInBounds_toArray, List.set_cons_zero, List.set_cons_succ, i64_w, i32_w]
                      rfl
                    refine pure_ (i := 23) (N := some 57) (v := ?_) (a' := ?_) #[true, true, true, true, true, true, true, true, true, true, true, true, true, true, true, true, true, true, true, true, true, true, true, true, false, false, false, false, false, false] rfl rfl (any_of HT_.out (by kernel_rfl)) (fun _ _ _ h => h) (Or.inl ⟨by rfl, ?_⟩) ?_ ?_
                    rotate_left
                    · intro w'
                      go_simp
                      with_reducible rfl
                    rotate_left
                    · simp only [Act.put, List.setIfInBounds_toArray, List.set_cons_zero, List.set_cons_succ, i64_w, i32_w]
                      rfl
                    refine take_ (i := 24) (N := some 58) (v := ?_) (a' := ?_) #[true, true, true, true, true, true, true, true, true, true, true, true, true, true, true, true, true, true, true, true, true, true, true, true, true, false, false, false, false, false] rfl rfl (take_ofW HT_.out HW_.out (by kernel_rfl)) (fun _ _ _ h => h) (Or.inl ⟨by rfl, ?_⟩) hHeld ?_ ?_
                    rotate_left
                    · rintro w' ⟨s0, s1, s2, s3, s4, s5, s6, s7, s8, s9, s10, s11⟩
                      go_simp
                      with_reducible rfl
                    rotate_left
                    · simp only [Act.put, List.setIfInBounds_toArray, List.set_cons_zero, List.set_cons_succ, i64_w, i32_w]
                      rfl
                    refine take_ (i := 25) (N := some 59) (v := ?_) (a' := ?_) #[true, true, true, true, true, true, true, true, true, true, true, true, true, true, true, true, true, true, true, true, true, true, true, true, true, true, false, false, false, false] rfl rfl (take_ofW HT_.out HW_.out (by kernel_rfl)) (fun _ _ _ h => h) (Or.inl ⟨by rfl, ?_⟩) hHeld ?_ ?_
                    rotate_left
                    · rintro w' ⟨s0, s1, s2, s3, s4, s5, s6, s7, s8, s9, s10, s11⟩
                      go_simp
                      with_reducible rfl
                    rotate_left
                    · simp only [Act.put, List.setIfInBounds_toArray, List.set_cons_zero, List.set_cons_succ, i64_w, i32_w]
                      rfl
                    refine one_ (i := 26) (N := some 60) #[true, true, true, true, true, true, true, true, true, true, true, true, true, true, true, true, true, true, true, true, true, true, true, true, true, true, true, false, false, false] rfl rfl (one_of HT_.out (by kernel_rfl)) (by decide) (fun K hK => ?_)
                    refine goes_ Try.func46 (by kernel_rfl) rfl #[y.val B4 d4, x.val A4 c4] (by rfl) rfl rfl (by simp only [List.map_toArray, List.map_cons, List.map_nil]; rfl) ?_
                    with_reducible refine ((HA _).out).mono ?_
                    rintro e w3 ⟨rfl, hb⟩
                    refine ⟨_, rfl, ?_⟩
                    have hby := hb
                    refine hK.out _ _ ⟨pw_cell_below hb (hHeld.1), pw_cell_below hb (hHeld.2.1), pw_cell_below hb (hHeld.2.2.1), pw_cell_below hb (hHeld.2.2.2.1), pw_cell_below hb (hHeld.2.2.2.2.1), pw_cell_below hb (hHeld.2.2.2.2.2.1), pw_cell_below hb (hHeld.2.2.2.2.2.2.1), pw_cell_below hb (hHeld.2.2.2.2.2.2.2.1), pw_cell_below hb (hHeld.2.2.2.2.2.2.2.2.1), pw_cell_below hb (hHeld.2.2.2.2.2.2.2.2.2.1), pw_cell_below hb (hHeld.2.2.2.2.2.2.2.2.2.2.1), pw_cell_below hb (hHeld.2.2.2.2.2.2.2.2.2.2.2)⟩ (fun hHeld => ?_)
                    clear hK K
                    refine norm_ (a' := ?_) ?_ ?_
                    rotate_left
                    · show Act.put _ (some 60) _ = _
                      simp only [Act.put, List.setIfInBounds_toArray, List.set_cons_zero, List.set_cons_succ, i64_w, i32_w]
                      rfl
                    refine pure_ (i := 27) (N := some 61) (v := ?_) (a' := ?_) #[true, true, true, true, true, true, true, true, true, true, true, true, true, true, true, true, true, true, true, true, true, true, true, true, true, true, true, true, false, false] rfl rfl (any_of HT_.out (by kernel_rfl)) (fun _ _ _ h => h) (Or.inl ⟨by rfl, ?_⟩) ?_ ?_
                    rotate_left
                    · intro w'
                      go_simp
                      with_reducible rfl
                    rotate_left
                    · simp only [Act.put, List.setIfInBounds_toArray, List.set_cons_zero, List.set_cons_succ, i64_w, i32_w]
                      rfl
                    refine pure_ (i := 28) (N := some 62) (v := ?_) (a' := ?_) #[true, true, true, true, true, true, true, true, true, true, true, true, true, true, true, true, true, true, true, true, true, true, true, true, true, true, true, true, true, false] rfl rfl (any_of HT_.out (by kernel_rfl)) (fun _ _ _ h => h) (Or.inl ⟨by rfl, ?_⟩) ?_ ?_
                    rotate_left
                    · intro w'
                      go_simp
                      with_reducible rfl
                    rotate_left
                    · simp only [Act.put, List.setIfInBounds_toArray, List.set_cons_zero, List.set_cons_succ, i64_w, i32_w]
                      rfl
                    refine pure_ (i := 29) (N := some 63) (v := ?_) (a' := ?_) #[true, true, true, true, true, true, true, true, true, true, true, true, true, true, true, true, true, true, true, true, true, true, true, true, true, true, true, true, true, true] rfl rfl (any_of HT_.out (by kernel_rfl)) (fun _ _ _ h => h) (Or.inl ⟨by rfl, ?_⟩) ?_ ?_
                    rotate_left
                    · intro w'
                      go_simp
                      with_reducible rfl
                    rotate_left
                    · simp only [Act.put, List.setIfInBounds_toArray, List.set_cons_zero, List.set_cons_succ, i64_w, i32_w]
                      rfl
                    refine done_ (done_of HT_.out (by kernel_rfl)) ?_
                    go_wp2
                    go_ret
                    exact ⟨ret_bool hbad.out.symm, hbw.trans ((hbW.drew.trans ((hbx.trans (hby.mono hbx.size)).mono hbW.drew.size)).mono (by omega))⟩
                  | true =>
                    rw [q5] at HA
                    refine start_ (n := 30) (S := fun w' => w'.cell? ⟨gv, 0, none⟩ = some (.string x.key) ∧ w'.cell? ⟨gv, 1, none⟩ = some (.int .i64 x.seq) ∧ w'.cell? ⟨gv, 2, none⟩ = some (.bool x.gone) ∧ w'.cell? ⟨gv, 3, none⟩ = some (.string x.data) ∧ w'.cell? ⟨gv, 4, none⟩ = some (.slice A4 x.pairs.length c4) ∧ w'.cell? ⟨w.heap.size, 0, none⟩ = some (.int .i64 nx) ∧ w'.cell? ⟨w.heap.size, 1, none⟩ = some (.slice (some ad) l.length c) ∧ w'.cell? (ad.add (j * 5)) = some (.string y.key) ∧ w'.cell? ⟨(ad.add (j * 5)).block, (ad.add (j * 5)).off + 1, none⟩ = some (.int .i64 y.seq) ∧ w'.cell? ⟨(ad.add (j * 5)).block, (ad.add (j * 5)).off + 2, none⟩ = some (.bool y.gone) ∧ w'.cell? ⟨(ad.add (j * 5)).block, (ad.add (j * 5)).off + 3, none⟩ = some (.string y.data) ∧ w'.cell? ⟨(ad.add (j * 5)).block, (ad.add (j * 5)).off + 4, none⟩ = some (.slice B4 y.pairs.length d4)) (ds := []) #[false, false, false, false, false, false, false, false, false, false, false, false, false, false, false, false, false, false, false, false, false, false, false, false, false, false, false, false, false, false] (by kernel_rfl) rfl rfl ⟨v0, v1, v2, v3, v4, b0, b1, y0, y1, y2, y3, y4⟩ (fun hHeld => ?_)
                    refine with_tabW bR.tab7 bR.bits7 (fun HT_ HW_ => ?_)
                    refine pure_ (i := 0) (N := some 34) (v := ?_) (a' := ?_) #[true, false, false, false, false, false, false, false, false, false, false, false, false, false, false, false, false, false, false, false, false, false, false, false, false, false, false, false, false, false] rfl rfl (any_of HT_.out (by kernel_rfl)) (fun _ _ _ h => h) (Or.inl ⟨by rfl, ?_⟩) ?_ ?_
                    rotate_left
                    · intro w'
                      go_simp
                      with_reducible rfl
                    rotate_left
                    · simp only [Act.put, List.setIfInBounds_toArray, List.set_cons_zero, List.set_cons_succ, i64_w, i32_w]
                      rfl
                    refine take_ (i := 1) (N := some 35) (v := ?_) (a' := ?_) #[true, true, false, false, false, false, false, false, false, false, false, false, false, false, false, false, false, false, false, false, false, false, false, false, false, false, false, false, false, false] rfl rfl (take_ofW HT_.out HW_.out (by kernel_rfl)) (fun _ _ _ h => h) (Or.inl ⟨by rfl, ?_⟩) hHeld ?_ ?_
                    rotate_left
                    · rintro w' ⟨s0, s1, s2, s3, s4, s5, s6, s7, s8, s9, s10, s11⟩
                      go_simp
                      with_reducible rfl
                    rotate_left
                    · simp only [Act.put, List.setIfInBounds_toArray, List.set_cons_zero, List.set_cons_succ, i64_w, i32_w]
                      rfl
                    refine pure_ (i := 2) (N := some 36) (v := ?_) (a' := ?_) #[true, true, true, false, false, false, false, false, false, false, false, false, false, false, false, false, false, false, false, false, false, false, false, false, false, false, false, false, false, false] rfl rfl (any_of HT_.out (by kernel_rfl)) (fun _ _ _ h => h) (Or.inl ⟨by rfl, ?_⟩) ?_ ?_
                    rotate_left
                    · intro w'
                      go_simp
                      with_reducible rfl
                    rotate_left
                    · simp only [Act.put, List.setIfInBounds_toArray, List.set_cons_zero, List.set_cons_succ, i64_w, i32_w]
                      rfl
                    refine pure_ (i := 3) (N := some 37) (v := ?_) (a' := ?_) #[true, true, true, true, false, false, false, false, false, false, false, false, false, false, false, false, false, false, false, false, false, false, false, false, false, false, false, false, false, false] rfl rfl (any_of HT_.out (by kernel_rfl)) (fun _ _ _ h => h) (Or.inl ⟨by rfl, ?_⟩) ?_ ?_
                    rotate_left
                    · intro w'
                      go_simp
                      with_reducible rfl
                    rotate_left
                    · simp only [Act.put, List.setIfInBounds_toArray, List.set_cons_zero, List.set_cons_succ, i64_w, i32_w]
                      rfl
                    refine pure_ (i := 4) (N := some 38) (v := ?_) (a' := ?_) #[true, true, true, true, true, false, false, false, false, false, false, false, false, false, false, false, false, false, false, false, false, false, false, false, false, false, false, false, false, false] rfl rfl (any_of HT_.out (by kernel_rfl)) (fun _ _ _ h => h) (Or.inl ⟨by rfl, ?_⟩) ?_ ?_
                    rotate_left
                    · intro w'
                      go_simp
                      with_reducible rfl
                    rotate_left
                    · simp only [Act.put, List.setIfInBounds_toArray, List.set_cons_zero, List.set_cons_succ, i64_w, i32_w]
                      rfl
                    refine pure_ (i := 6) (N := some 40) (v := ?_) (a' := ?_) #[true, true, true, true, true, false, true, false, false, false, false, false, false, false, false, false, false, false, false, false, false, false, false, false, false, false, false, false, false, false] rfl rfl (any_of HT_.out (by kernel_rfl)) (fun _ _ _ h => h) (Or.inl ⟨by rfl, ?_⟩) ?_ ?_
                    rotate_left
                    · intro w'
                      go_simp
                      with_reducible rfl
                    rotate_left
                    · simp only [Act.put, List.setIfInBounds_toArray, List.set_cons_zero, List.set_cons_succ, i64_w, i32_w]
                      rfl
                    refine take_ (i := 5) (N := some 39) (v := ?_) (a' := ?_) #[true, true, true, true, true, true, true, false, false, false, false, false, false, false, false, false, false, false, false, false, false, false, false, false, false, false, false, false, false, false] rfl rfl (take_ofW HT_.out HW_.out (by kernel_rfl)) (fun _ _ _ h => h) (Or.inl ⟨by rfl, ?_⟩) hHeld ?_ ?_
                    rotate_left
                    · rintro w' ⟨s0, s1, s2, s3, s4, s5, s6, s7, s8, s9, s10, s11⟩
                      go_simp
                      with_reducible rfl
                    rotate_left
                    · simp only [Act.put, List.setIfInBounds_toArray, List.set_cons_zero, List.set_cons_succ, i64_w, i32_w]
                      rfl
                    refine take_ (i := 7) (N := some 41) (v := ?_) (a' := ?_) #[true, true, true, true, true, true, true, true, false, false, false, false, false, false, false, false, false, false, false, false, false, false, false, false, false, false, false, false, false, false] rfl rfl (take_ofW HT_.out HW_.out (by kernel_rfl)) (fun _ _ _ h => h) (Or.inl ⟨by rfl, ?_⟩) hHeld ?_ ?_
                    rotate_left
                    · rintro w' ⟨s0, s1, s2, s3, s4, s5, s6, s7, s8, s9, s10, s11⟩
                      go_simp
                      with_reducible rfl
                    rotate_left
                    · simp only [Act.put, List.setIfInBounds_toArray, List.set_cons_zero, List.set_cons_succ, i64_w, i32_w]
                      rfl
                    refine pure_ (i := 8) (N := some 42) (v := ?_) (a' := ?_) #[true, true, true, true, true, true, true, true, true, false, false, false, false, false, false, false, false, false, false, false, false, false, false, false, false, false, false, false, false, false] rfl rfl (any_of HT_.out (by kernel_rfl)) (fun _ _ _ h => h) (Or.inl ⟨by rfl, ?_⟩) ?_ ?_
                    rotate_left
                    · intro w'
                      go_simp
                      with_reducible rfl
                    rotate_left
                    · simp only [Act.put, List.setIfInBounds_toArray, List.set_cons_zero, List.set_cons_succ, i64_w, i32_w]
                      rfl
                    refine pure_ (i := 9) (N := some 43) (v := ?_) (a' := ?_) #[true, true, true, true, true, true, true, true, true, true, false, false, false, false, false, false, false, false, false, false, false, false, false, false, false, false, false, false, false, false] rfl rfl (any_of HT_.out (by kernel_rfl)) (fun _ _ _ h => h) (Or.inl ⟨by rfl, ?_⟩) ?_ ?_
                    rotate_left
                    · intro w'
                      go_simp
                      with_reducible rfl
                    rotate_left
                    · simp only [Act.put, List.setIfInBounds_toArray, List.set_cons_zero, List.set_cons_succ, i64_w, i32_w]
                      rfl
                    refine pure_ (i := 10) (N := some 44) (v := ?_) (a' := ?_) #[true, true, true, true, true, true, true, true, true, true, true, false, false, false, false, false, false, false, false, false, false, false, false, false, false, false, false, false, false, false] rfl rfl (any_of HT_.out (by kernel_rfl)) (fun _ _ _ h => h) (Or.inl ⟨by rfl, ?_⟩) ?_ ?_
                    rotate_left
                    · intro w'
                      go_simp
                      with_reducible rfl
                    rotate_left
                    · simp only [Act.put, List.setIfInBounds_toArray, List.set_cons_zero, List.set_cons_succ, i64_w, i32_w]
                      rfl
                    refine take_ (i := 11) (N := some 45) (v := ?_) (a' := ?_) #[true, true, true, true, true, true, true, true, true, true, true, true, false, false, false, false, false, false, false, false, false, false, false, false, false, false, false, false, false, false] rfl rfl (take_ofW HT_.out HW_.out (by kernel_rfl)) (fun _ _ _ h => h) (Or.inl ⟨by rfl, ?_⟩) hHeld ?_ ?_
                    rotate_left
                    · rintro w' ⟨s0, s1, s2, s3, s4, s5, s6, s7, s8, s9, s10, s11⟩
                      go_simp
                      with_reducible rfl
                    rotate_left
                    · simp only [Act.put, List.setIfInBounds_toArray, List.set_cons_zero, List.set_cons_succ, i64_w, i32_w]
                      rfl
                    refine one_ (i := 12) (N := some 46) #[true, true, true, true, true, true, true, true, true, true, true, true, true, false, false, false, false, false, false, false, false, false, false, false, false, false, false, false, false, false] rfl rfl (one_of HT_.out (by kernel_rfl)) (by decide) (fun K hK => ?_)
                    refine goes_ Try.func45 (by kernel_rfl) rfl #[x.val A4 c4] (by rfl) rfl rfl (by simp only [List.map_toArray, List.map_cons, List.map_nil]; rfl) ?_
                    with_reducible refine ((HV _ (Below.refl _ _).drew).out).mono ?_
                    rintro e w3 ⟨r, rfl, hr, hb⟩
                    refine ⟨_, rfl, ?_⟩
                    have hbx := hb
                    have r1 := by_ver hr
                    refine hK.out _ _ ⟨pw_cell_below hb (hHeld.1), pw_cell_below hb (hHeld.2.1), pw_cell_below hb (hHeld.2.2.1), pw_cell_below hb (hHeld.2.2.2.1), pw_cell_below hb (hHeld.2.2.2.2.1), pw_cell_below hb (hHeld.2.2.2.2.2.1), pw_cell_below hb (hHeld.2.2.2.2.2.2.1), pw_cell_below hb (hHeld.2.2.2.2.2.2.2.1), pw_cell_below hb (hHeld.2.2.2.2.2.2.2.2.1), pw_cell_below hb (hHeld.2.2.2.2.2.2.2.2.2.1), pw_cell_below hb (hHeld.2.2.2.2.2.2.2.2.2.2.1), pw_cell_below hb (hHeld.2.2.2.2.2.2.2.2.2.2.2)⟩ (fun hHeld => ?_)
                    clear hK K
                    refine norm_ (a' := ?_) ?_ ?_
                    rotate_left
                    · show Act.put _ (some 46) _ = _
                      simp only [Act.put, List.setIfInBounds_toArray, List.set_cons_zero, List.set_cons_succ, i64_w, i32_w]
                      rfl
                    refine pure_ (i := 13) (N := some 47) (v := ?_) (a' := ?_) #[true, true, true, true, true, true, true, true, true, true, true, true, true, true, false, false, false, false, false, false, false, false, false, false, false, false, false, false, false, false] rfl rfl (any_of HT_.out (by kernel_rfl)) (fun _ _ _ h => h) (Or.inl ⟨by rfl, ?_⟩) ?_ ?_
                    rotate_left
                    · intro w'
                      go_simp
                      with_reducible rfl
                    rotate_left
                    · simp only [Act.put, List.setIfInBounds_toArray, List.set_cons_zero, List.set_cons_succ, i64_w, i32_w]
                      rfl
                    refine pure_ (i := 14) (N := some 48) (v := ?_) (a' := ?_) #[true, true, true, true, true, true, true, true, true, true, true, true, true, true, true, false, false, false, false, false, false, false, false, false, false, false, false, false, false, false] rfl rfl (any_of HT_.out (by kernel_rfl)) (fun _ _ _ h => h) (Or.inl ⟨by rfl, ?_⟩) ?_ ?_
                    rotate_left
                    · intro w'
                      go_simp
                      with_reducible rfl
                    rotate_left
                    · simp only [Act.put, List.setIfInBounds_toArray, List.set_cons_zero, List.set_cons_succ, i64_w, i32_w]
                      rfl
                    refine pure_ (i := 15) (N := some 49) (v := ?_) (a' := ?_) #[true, true, true, true, true, true, true, true, true, true, true, true, true, true, true, true, false, false, false, false, false, false, false, false, false, false, false, false, false, false] rfl rfl (any_of HT_.out (by kernel_rfl)) (fun _ _ _ h => h) (Or.inl ⟨by rfl, ?_⟩) ?_ ?_
                    rotate_left
                    · intro w'
                      go_simp
                      with_reducible rfl
                    rotate_left
                    · simp only [Act.put, List.setIfInBounds_toArray, List.set_cons_zero, List.set_cons_succ, i64_w, i32_w]
                      rfl
                    refine pure_ (i := 16) (N := some 50) (v := ?_) (a' := ?_) #[true, true, true, true, true, true, true, true, true, true, true, true, true, true, true, true, true, false, false, false, false, false, false, false, false, false, false, false, false, false] rfl rfl (any_of HT_.out (by kernel_rfl)) (fun _ _ _ h => h) (Or.inl ⟨by rfl, ?_⟩) ?_ ?_
                    rotate_left
                    · intro w'
                      go_simp
                      with_reducible rfl
                    rotate_left
                    · simp only [Act.put, List.setIfInBounds_toArray, List.set_cons_zero, List.set_cons_succ, i64_w, i32_w]
                      rfl
                    refine pure_ (i := 17) (N := some 51) (v := ?_) (a' := ?_) #[true, true, true, true, true, true, true, true, true, true, true, true, true, true, true, true, true, true, false, false, false, false, false, false, false, false, false, false, false, false] rfl rfl (any_of HT_.out (by kernel_rfl)) (fun _ _ _ h => h) (Or.inl ⟨by rfl, ?_⟩) ?_ ?_
                    rotate_left
                    · intro w'
                      go_simp
                      with_reducible rfl
                    rotate_left
                    · simp only [Act.put, List.setIfInBounds_toArray, List.set_cons_zero, List.set_cons_succ, i64_w, i32_w]
                      rfl
                    refine pure_ (i := 18) (N := some 52) (v := ?_) (a' := ?_) #[true, true, true, true, true, true, true, true, true, true, true, true, true, true, true, true, true, true, true, false, false, false, false, false, false, false, false, false, false, false] rfl rfl (any_of HT_.out (by kernel_rfl)) (fun _ _ _ h => h) (Or.inl ⟨by rfl, ?_⟩) ?_ ?_
                    rotate_left
                    · intro w'
                      go_simp
                      with_reducible rfl
                    rotate_left
                    · simp only [Act.put, List.setIfInBounds_toArray, List.set_cons_zero, List.set_cons_succ, i64_w, i32_w]
                      rfl
                    refine pure_ (i := 19) (N := some 53) (v := ?_) (a' := ?_) #[true, true, true, true, true, true, true, true, true, true, true, true, true, true, true, true, true, true, true, true, false, false, false, false, false, false, false, false, false, false] rfl rfl (any_of HT_.out (by kernel_rfl)) (fun _ _ _ h => h) (Or.inl ⟨by rfl, ?_⟩) ?_ ?_
                    rotate_left
                    · intro w'
                      go_simp
                      with_reducible rfl
                    rotate_left
                    · simp only [Act.put, List.setIfInBounds_toArray, List.set_cons_zero, List.set_cons_succ, i64_w, i32_w]
                      rfl
                    refine pure_ (i := 21) (N := some 55) (v := ?_) (a' := ?_) #[true, true, true, true, true, true, true, true, true, true, true, true, true, true, true, true, true, true, true, true, false, true, false, false, false, false, false, false, false, false] rfl rfl (any_of HT_.out (by kernel_rfl)) (fun _ _ _ h => h) (Or.inl ⟨by rfl, ?_⟩) ?_ ?_
                    rotate_left
                    · intro w'
                      go_simp
                      with_reducible rfl
                    rotate_left
                    · simp only [Act.put, List.setIfInBounds_toArray, List.set_cons_zero, List.set_cons_succ, i64_w, i32_w]
                      rfl
                    refine pure_ (i := 22) (N := some 56) (v := ?_) (a' := ?_) #[true, true, true, true, true, true, true, true, true, true, true, true, true, true, true, true, true, true, true, true, false, true, true, false, false, false, false, false, false, false] rfl rfl (any_of HT_.out (by kernel_rfl)) (fun _ _ _ h => h) (Or.inl ⟨by rfl, ?_⟩) ?_ ?_
                    rotate_left
                    · intro w'
                      go_simp
                      with_reducible rfl
                    rotate_left
                    · simp only [Act.put, List.setIfInBounds_toArray, List.set_cons_zero, List.set_cons_succ, i64_w, i32_w]
                      rfl
                    refine take_ (i := 20) (N := some 54) (v := ?_) (a' := ?_) #[true, true, true, true, true, true, true, true, true, true, true, true, true, true, true, true, true, true, true, true, true, true, true, false, false, false, false, false, false, false] rfl rfl (take_ofW HT_.out HW_.out (by kernel_rfl)) (fun _ _ _ h => h) (Or.inl ⟨by rfl, ?_⟩) hHeld ?_ ?_
                    rotate_left
                    · rintro w' ⟨s0, s1, s2, s3, s4, s5, s6, s7, s8, s9, s10, s11⟩
                      go_simp
                      with_reducible rfl
                    rotate_left
                    · simp only [Act.put, List.setIfInBounds_toArray, List.set_cons_zero, List.set_cons_succ, i64_w, i32_w]
                      rfl
                    refine pure_ (i := 23) (N := some 57) (v := ?_) (a' := ?_) #[true, true, true, true, true, true, true, true, true, true, true, true, true, true, true, true, true, true, true, true, true, true, true, true, false, false, false, false, false, false] rfl rfl (any_of HT_.out (by kernel_rfl)) (fun _ _ _ h => h) (Or.inl ⟨by rfl, ?_⟩) ?_ ?_
                    rotate_left
                    · intro w'
                      go_simp
                      with_reducible rfl
                    rotate_left
                    · simp only [Act.put, List.setIfInBounds_toArray, List.set_cons_zero, List.set_cons_succ, i64_w, i32_w]
                      rfl
                    refine take_ (i := 24) (N := some 58) (v := ?_) (a' := ?_) #[true, true, true, true, true, true, true, true, true, true, true, true, true, true, true, true, true, true, true, true, true, true, true, true, true, false, false, false, false, false] rfl rfl (take_ofW HT_.out HW_.out (by kernel_rfl)) (fun _ _ _ h => h) (Or.inl ⟨by rfl, ?_⟩) hHeld ?_ ?_
                    rotate_left
                    · rintro w' ⟨s0, s1, s2, s3, s4, s5, s6, s7, s8, s9, s10, s11⟩
                      go_simp
                      with_reducible rfl
                    rotate_left
                    · simp only [Act.put, List.setIfInBounds_toArray, List.set_cons_zero, List.set_cons_succ, i64_w, i32_w]
                      rfl
                    refine take_ (i := 25) (N := some 59) (v := ?_) (a' := ?_) #[true, true, true, true, true, true, true, true, true, true, true, true, true, true, true, true, true, true, true, true, true, true, true, true, true, true, false, false, false, false] rfl rfl (take_ofW HT_.out HW_.out (by kernel_rfl)) (fun _ _ _ h => h) (Or.inl ⟨by rfl, ?_⟩) hHeld ?_ ?_
                    rotate_left
                    · rintro w' ⟨s0, s1, s2, s3, s4, s5, s6, s7, s8, s9, s10, s11⟩
                      go_simp
                      with_reducible rfl
                    rotate_left
                    · simp only [Act.put, List.setIfInBounds_toArray, List.set_cons_zero, List.set_cons_succ, i64_w, i32_w]
                      rfl
                    refine one_ (i := 26) (N := some 60) #[true, true, true, true, true, true, true, true, true, true, true, true, true, true, true, true, true, true, true, true, true, true, true, true, true, true, true, false, false, false] rfl rfl (one_of HT_.out (by kernel_rfl)) (by decide) (fun K hK => ?_)
                    refine goes_ Try.func46 (by kernel_rfl) rfl #[y.val B4 d4, x.val A4 c4] (by rfl) rfl rfl (by simp only [List.map_toArray, List.map_cons, List.map_nil]; rfl) ?_
                    with_reducible refine ((HA _).out).mono ?_
                    rintro e w3 ⟨rfl, hb⟩
                    refine ⟨_, rfl, ?_⟩
                    have hby := hb
                    refine hK.out _ _ ⟨pw_cell_below hb (hHeld.1), pw_cell_below hb (hHeld.2.1), pw_cell_below hb (hHeld.2.2.1), pw_cell_below hb (hHeld.2.2.2.1), pw_cell_below hb (hHeld.2.2.2.2.1), pw_cell_below hb (hHeld.2.2.2.2.2.1), pw_cell_below hb (hHeld.2.2.2.2.2.2.1), pw_cell_below hb (hHeld.2.2.2.2.2.2.2.1), pw_cell_below hb (hHeld.2.2.2.2.2.2.2.2.1), pw_cell_below hb (hHeld.2.2.2.2.2.2.2.2.2.1), pw_cell_below hb (hHeld.2.2.2.2.2.2.2.2.2.2.1), pw_cell_below hb (hHeld.2.2.2.2.2.2.2.2.2.2.2)⟩ (fun hHeld => ?_)
                    clear hK K
                    refine norm_ (a' := ?_) ?_ ?_
                    rotate_left
                    · show Act.put _ (some 60) _ = _
                      simp only [Act.put, List.setIfInBounds_toArray, List.set_cons_zero, List.set_cons_succ, i64_w, i32_w]
                      rfl
                    refine pure_ (i := 27) (N := some 61) (v := ?_) (a' := ?_) #[true, true, true, true, true, true, true, true, true, true, true, true, true, true, true, true, true, true, true, true, true, true, true, true, true, true, true, true, false, false] rfl rfl (any_of HT_.out (by kernel_rfl)) (fun _ _ _ h => h) (Or.inl ⟨by rfl, ?_⟩) ?_ ?_
                    rotate_left
                    · intro w'
                      go_simp
                      with_reducible rfl
                    rotate_left
                    · simp only [Act.put, List.setIfInBounds_toArray, List.set_cons_zero, List.set_cons_succ, i64_w, i32_w]
                      rfl
                    refine pure_ (i := 28) (N := some 62) (v := ?_) (a' := ?_) #[true, true, true, true, true, true, true, true, true, true, true, true, true, true, true, true, true, true, true, true, true, true, true, true, true, true, true, true, true, false] rfl rfl (any_of HT_.out (by kernel_rfl)) (fun _ _ _ h => h) (Or.inl ⟨by rfl, ?_⟩) ?_ ?_
                    rotate_left
                    · intro w'
                      go_simp
                      with_reducible rfl
                    rotate_left
                    · simp only [Act.put, List.setIfInBounds_toArray, List.set_cons_zero, List.set_cons_succ, i64_w, i32_w]
                      rfl
                    refine pure_ (i := 29) (N := some 63) (v := ?_) (a' := ?_) #[true, true, true, true, true, true, true, true, true, true, true, true, true, true, true, true, true, true, true, true, true, true, true, true, true, true, true, true, true, true] rfl rfl (any_of HT_.out (by kernel_rfl)) (fun _ _ _ h => h) (Or.inl ⟨by rfl, ?_⟩) ?_ ?_
                    rotate_left
                    · intro w'
                      go_simp
                      with_reducible rfl
                    rotate_left
                    · simp only [Act.put, List.setIfInBounds_toArray, List.set_cons_zero, List.set_cons_succ, i64_w, i32_w]
                      rfl
                    refine done_ (done_of HT_.out (by kernel_rfl)) ?_
                    clear hwj hjl2
                    have z1 := hHeld.2.1
                    have own3 := own_below (own_below (w := W.drew) own1 hbx hszW) hby (Nat.le_trans hszW hbx.size)
                    have bel3 : Below wm.heap.size wm w3 := hbW.drew.trans ((hbx.trans (hby.mono hbx.size)).mono (Nat.le_of_succ_le hszW))
                    have hgs := World.block_lt_of_cell? w3 _ z1
                    have hs3 : wm.heap.size + 1 ≤ w3.heap.size := Nat.le_trans hgv (Nat.le_of_lt hgs)
                    have hkey : keyOf Try.prog 2 (.int .i64 x.seq) = some (.int .i64 x.seq) := keyOf_int_mk Try.underlying2 (wf_seq q1 q2 n2)
                    have hkm : (j + 1) < maxLen := by unfold maxLen; omega
                    cases q6 : apartTo l ((j + 1)) ((j + 1)) with
                    | false =>
                      have hbad := Lib.hid (rightV_bad hlt (gd_no (nx := nx) HX.out (.inr (.inr (.inr (.inr q6))))))
                      have hc0 : ∀ c, D.atKey (.int .i64 x.seq) (.lit (.int .i64 0)) = .lit (.int .i64 c) → c = 1 := fun c hat => by rw [seen_at HS.out hk (by rw [HX.out]) hat, q6]; rfl
                      clear HV HP1 HA
                      go_wp2_with (first
                        | (at_lookup; refine wpList_lookup_own_int _ rfl _ _ 66 rfl 2 3 .i64 lawI Try.underlying66 Try.underlying3 (zeroI _) wm.heap.size ((j + 1)) _ rfl own3 _ _ rfl hkey ?_; intro c1 hat1 hwc1; obtain rfl := hc0 c1 hat1)
                        | (at_lookup; refine wpList_lookup_own_int _ rfl _ _ 66 rfl 2 3 .i64 lawI Try.underlying66 Try.underlying3 (zeroI _) wm.heap.size ((j + 1) + 1) _ rfl hown1 _ _ rfl hkey ?_; intro c2 hat2 hwc2; obtain rfl : c2 = 2 := seen_two HS.out.1 hat2)
                        | (at_mapUpdate; refine wpList_mapUpdate_own _ rfl _ _ _ 66 rfl 2 3 lawI Try.underlying66 _ wm.heap.size ((j + 1)) _ rfl own3 hkm _ _ _ rfl rfl hkey (.lit (.int .i64 2)) [] (plainElem_int Try.underlying3 (by decide)) ?_; intro w1 hown1 hgrow1; have z2 := (World.cell?_of_block (w := w3) (hgrow1.block gv hgs (fun e => by cases e; exact Nat.lt_irrefl _ hgv))).trans z1)
                        | go_in)
                      go_ret
                      exact ⟨ret_bool hbad.out.symm, hbw.trans ((bel3.grown hgrow1 (Nat.le_of_succ_le hs3) (fun k h => by cases h; exact Nat.le_refl _)).mono (Nat.le_trans (Nat.le_succ _) hww))⟩
                    | true =>
                      have hgood := Lib.hid (gd_yes (nx := nx) HX.out q3 q1 q2 (.inr (by rw [HY.out]; exact q5)) q6)
                      have hc0 : ∀ c, D.atKey (.int .i64 x.seq) (.lit (.int .i64 0)) = .lit (.int .i64 c) → c = 0 := fun c hat => by rw [seen_at HS.out hk (by rw [HX.out]) hat, q6]; rfl
                      clear HV HP1 HA
                      go_wp2_with (first
                        | (at_lookup; refine wpList_lookup_own_int _ rfl _ _ 66 rfl 2 3 .i64 lawI Try.underlying66 Try.underlying3 (zeroI _) wm.heap.size ((j + 1)) _ rfl own3 _ _ rfl hkey ?_; intro c1 hat1 hwc1; obtain rfl := hc0 c1 hat1)
                        | (at_lookup; refine wpList_lookup_own_int _ rfl _ _ 66 rfl 2 3 .i64 lawI Try.underlying66 Try.underlying3 (zeroI _) wm.heap.size ((j + 1) + 1) _ rfl hown1 _ _ rfl hkey ?_; intro c2 hat2 hwc2; obtain rfl : c2 = 1 := seen_two HS.out.1 hat2)
                        | (at_mapUpdate; refine wpList_mapUpdate_own _ rfl _ _ _ 66 rfl 2 3 lawI Try.underlying66 _ wm.heap.size ((j + 1)) _ rfl own3 hkm _ _ _ rfl rfl hkey (.lit (.int .i64 1)) [] (plainElem_int Try.underlying3 (by decide)) ?_; intro w1 hown1 hgrow1; have z2 := (World.cell?_of_block (w := w3) (hgrow1.block gv hgs (fun e => by cases e; exact Nat.lt_irrefl _ hgv))).trans z1)
                        | go_in)
                      go_roundw
                      case rel => exact ⟨(j + 1) + 1, _, hlt, by go_num, HG.out.succ hgood.out, seen_succ HS.out hlt (by rw [HX.out]), hown1, bel3.grown hgrow1 (Nat.le_of_succ_le hs3) (fun k h => by cases h; exact Nat.le_refl _), Nat.le_trans hs3 hgrow1.size⟩
                      case measure => simp [intOf]; omega
        · have hke : k = l.length := by omega
          subst hke
          have hgood : rightV l nx = true := by simp [rightV, n1, n2, n3, N4.out, HG.out.all]
          have HB := Lib.hid hgood
          clear hgood HCw
          go_wp2
          go_ret
          exact ⟨ret_bool HB.out.symm, hbw.trans (hbr.mono (by omega))⟩
    · have t4 : decide ((65536 : Int) < wrap64 (bsize l)) = true := decide_eq_true (Int.not_le.1 n4)
      have HB := Lib.hid (show rightV l nx = false by simp [rightV, n4])
      clear n4
      go_enter Try.func33, Try.ntmps33
      go_wp2_with (first | (go_at_call 35; refine (HBs _ (below1 _ _)).out.mono ?_; rintro e wm ⟨rfl, hb2⟩; have hbw := box_below hb2))
      go_ret
      exact ⟨ret_bool HB.out.symm, hbw⟩
  · have hbad : rightV l nx = false := by
      rw [Bool.eq_false_iff]
      intro h
      simp only [rightV, Bool.and_eq_true, decide_eq_true_eq] at h
      exact n1 ⟨h.1.1.1.1, h.1.1.1.2, h.1.1.2⟩
    have HB := Lib.hid hbad
    clear hbad
    by_cases m1 : nx < 1
    · have t1 : decide (nx < 1) = true := decide_eq_true m1
      go_enter Try.func33, Try.ntmps33
      go_wp2
      go_ret
      exact ⟨ret_bool HB.out.symm, below1 _ _⟩
    · have t1 : decide (nx < 1) = false := decide_eq_false m1
      by_cases m2 : 1099511627777 < nx
      · have t2 : decide (1099511627777 < nx) = true := decide_eq_true m2
        go_enter Try.func33, Try.ntmps33
        go_wp2
        go_ret
        exact ⟨ret_bool HB.out.symm, below1 _ _⟩
      · have t2 : decide (1099511627777 < nx) = false := decide_eq_false m2
        have t3 : decide ((256 : Int) < (l.length : Int)) = true := decide_eq_true (by omega)
        go_enter Try.func33, Try.ntmps33
        go_wp2
        go_ret
        exact ⟨ret_bool HB.out.symm, below1 _ _⟩
end Go.Proofs.Ytbhdehkdnenigaa

set_option linter.unusedVariables false
set_option linter.unusedSimpArgs false
namespace Go.Proofs.Ytbhdehkdnenigaa
open Go.RowKit Go.Proofs.YtbhdehkdnenigaaW.PrintWords
attribute [local go_sem] Vn.val
set_option maxHeartbeats 400000 in
theorem old_any (x : Vn) (A : Option Addr) (c : Nat) (b : Nat) (s : Int) (w : World) (hb : w.cell? ⟨b, 0, none⟩ = some (.int .i64 s)) :
    Calls Try.prog 32 #[x.val A c, .pointer (some ⟨b, 0, none⟩)] w fun e w' => e = .returned (.bool (decide (x.seq < s))) ∧ Below w.heap.size w w' := by
  have hb2 := pw_cell_below (below1 w (.cells #[.string x.key, .int .i64 x.seq, .bool x.gone, .string x.data, .slice A x.pairs.length c] 48)) hb
  go_enter Try.func32, Try.ntmps32
  go_wp2
  go_ret
  exact ⟨rfl, below1 _ _⟩
def oldF (l : List Vn) (s : Int) : Bool := l.any (fun v => decide (v.seq < s))
theorem old_hit {l : List Vn} {s : Int} {k : Nat} (h : k < l.length) (q : decide ((rdV l k).seq < s) = true) : oldF l s = true := by
  unfold oldF
  rw [List.any_eq_true]
  exact ⟨_, rdV_mem h, q⟩
set_option maxRecDepth 100000 in
set_option maxHeartbeats 1000000 in
theorem idx_any (l : List Vn) (A : Option Addr) (c : Nat) (b : Nat) (s : Int) (w : World) (hb : w.cell? ⟨b, 0, none⟩ = some (.int .i64 s)) (hC : kVn.C w A l.length l) (hl : l.length ≤ c) :
    Calls Try.prog 47 #[.slice A l.length c, .func (.func 32) #[] #[.pointer (some ⟨b, 0, none⟩)]] w fun e w' => ∃ r : Int, e = .returned (.int .i64 r) ∧ decide (0 ≤ r) = oldF l s ∧ Below w.heap.size w w' := by
  have HC := Lib.hid hC
  have hml := hC.2.1
  clear hC
  go_enter Try.func47, Try.ntmps47
  go_wp2
  go_loopw [8] (fun i wr => ∃ k : Nat, k ≤ l.length ∧ i = .int .i64 k ∧ Hid (oldF (l.take k) s = false) ∧ Below w.heap.size w wr) (fun i _ => l.length - (intOf i).toNat)
  case atStart => exact ⟨0, Nat.zero_le _, rfl, by show oldF (l.take 0) s = false; simp [oldF], Below.refl _ _⟩
  case round =>
    obtain ⟨k, hk, rfl, HO, hbw⟩ := hrel
    have HCw := Kd.C_below HC.out hbw
    by_cases hlt : k < l.length
    · obtain ⟨ad, A4, c4, rfl, h1, h2, h3, h4, h5, h6, h7⟩ := kVn_rd HCw k hlt
      have hbb := pw_cell_below hbw hb
      have HT := fun w' h => Lib.hid (old_any (rdV l k) A4 c4 b s w' h)
      have hk1 := List.take_succ_eq_append_getElem hlt
      rw [rdV_at hlt] at hk1
      cases q : decide ((rdV l k).seq < s) with
      | true =>
        have HB := Lib.hid (show oldF l s = true from old_hit hlt q)
        rw [q] at HT
        clear hk1
        go_wp2_with (first | (go_at_call 32; refine (HT _ hbb).out.mono ?_; rintro e w' ⟨rfl, hb2⟩))
        go_ret
        exact ⟨_, rfl, by rw [HB.out]; exact decide_eq_true (by omega), hbw.trans (hb2.mono hbw.size)⟩
      | false =>
        have HN := Lib.hid (show oldF (l.take (k + 1)) s = false by
          rw [hk1]
          have h0 := HO.out
          unfold oldF at h0 ⊢
          rw [List.any_append, h0]
          simpa using q)
        rw [q] at HT
        clear hk1
        go_wp2_with (first | (go_at_call 32; refine (HT _ hbb).out.mono ?_; rintro e w' ⟨rfl, hb2⟩))
        go_roundw
        case rel => exact ⟨k + 1, by omega, by go_num, HN, hbw.trans (hb2.mono hbw.size)⟩
        case measure => simp [intOf]; omega
    · have hke : k = l.length := by omega
      subst hke
      have h0 := HO.out
      rw [List.take_length] at h0
      have HB := Lib.hid h0
      clear h0 HCw
      go_wp2
      go_ret
      exact ⟨-1, rfl, by rw [HB.out]; rfl, hbw⟩
set_option maxHeartbeats 400000 in
theorem has_any (l : List Vn) (A : Option Addr) (c : Nat) (b : Nat) (s : Int) (w : World) (hb : w.cell? ⟨b, 0, none⟩ = some (.int .i64 s)) (hC : kVn.C w A l.length l) (hl : l.length ≤ c) :
    Calls Try.prog 34 #[.slice A l.length c, .func (.func 32) #[] #[.pointer (some ⟨b, 0, none⟩)]] w fun e w' => e = .returned (.bool (oldF l s)) ∧ Below w.heap.size w w' := by
  have HI := Lib.hid (idx_any l A c b s w hb hC hl)
  go_enter Try.func34, Try.ntmps34
  go_wp2_with (first | (go_at_call 47; refine HI.out.mono ?_; rintro e w' ⟨r, rfl, hr, hb2⟩))
  go_ret
  exact ⟨by first | rfl | exact ret_bool hr, hb2⟩
def dRightV (l : List Vn) (nx s : Int) : Bool := decide (1 ≤ s) && decide (s ≤ nx) && rightV l nx && !oldF l s
set_option maxHeartbeats 1000000 in
theorem dRight_any (l : List Vn) (nx s : Int) (A : Option Addr) (c : Nat) (w : World) (hC : kVn.C w A l.length l) (hl : l.length ≤ c) (HF : ∀ x ∈ l, x.Fits) :
    Calls Try.prog 15 #[.agg #[.int .i64 s, .int .i64 nx, .slice A l.length c]] w fun e w' => e = .returned (.bool (dRightV l nx s)) ∧ Below w.heap.size w w' := by
  have hmf : ∀ (fn : Fn) (first cap : Array Value) (w : World), (Instr.makeFunc fn first cap).run Try.prog w = .ok (.func fn first cap) w := fun _ _ _ _ => rfl
  have HR0 := fun w' (h : Below w.heap.size w w') => bRight_any l nx A c w' (Kd.C_below hC h) hl HF
  have HH0 := fun w' (h : Below w.heap.size w w') (hb : w'.cell? ⟨w.heap.size, 0, none⟩ = some (.int .i64 s)) => has_any l A c w.heap.size s w' hb (Kd.C_below hC h) hl
  have hd : dRightV l nx s = (decide (1 ≤ s) && decide (s ≤ nx) && rightV l nx && !oldF l s) := rfl
  have hB0 := below1 w (.cells #[.int .i64 s, .int .i64 nx, .slice A l.length c] 27)
  have hc0 : (w.alloc (.cells #[.int .i64 s, .int .i64 nx, .slice A l.length c] 27)).cell? ⟨w.heap.size, 0, none⟩ = some (.int .i64 s) := box_cell (Below.refl _ _) (i := 0) rfl
  by_cases q1 : 1 ≤ s
  · have t1 : decide (1 ≤ s) = true := decide_eq_true q1
    by_cases q2 : s ≤ nx
    · have t2 : decide (s ≤ nx) = true := decide_eq_true q2
      cases q3 : rightV l nx with
      | true =>
        rw [q3] at HR0
        have HB := Lib.hid (show dRightV l nx s = !oldF l s by rw [hd, t1, t2, q3]; rfl)
        have HR := fun w' h => Lib.hid (HR0 w' h)
        have HH := fun w' h hb => Lib.hid (HH0 w' h hb)
        clear HR0 HH0 hd
        generalize oldF l s = o at *
        go_enter Try.func15, Try.ntmps15
        go_wp2_with (first | (go_at_call 33; refine (HR _ hB0).out.mono ?_; rintro e w1 ⟨rfl, hb1⟩; have hc1 := pw_cell_below hb1 hc0; have hB1 := hB0.trans (hb1.mono hB0.size); have hm0 := box_cell hb1 (i := 0) rfl; have hm1 := box_cell hb1 (i := 1) rfl; have hm2 := box_cell hb1 (i := 2) rfl) | (go_at_call 34; refine (HH _ hB1 hc1).out.mono ?_; rintro e w2 ⟨rfl, hb2⟩))
        go_ret
        exact ⟨ret_bool HB.out.symm, hB1.trans (hb2.mono hB1.size)⟩
      | false =>
        rw [q3] at HR0
        have HB := Lib.hid (show dRightV l nx s = false by rw [hd, q3]; simp)
        have HR := fun w' h => Lib.hid (HR0 w' h)
        clear HR0 HH0 hd
        go_enter Try.func15, Try.ntmps15
        go_wp2_with (first | (go_at_call 33; refine (HR _ hB0).out.mono ?_; rintro e w1 ⟨rfl, hb1⟩; have hB1 := hB0.trans (hb1.mono hB0.size)))
        go_ret
        exact ⟨ret_bool HB.out.symm, hB1⟩
    · have t2 : decide (s ≤ nx) = false := decide_eq_false q2
      have HB := Lib.hid (show dRightV l nx s = false by rw [hd, t2]; simp)
      clear HR0 HH0 hd
      go_enter Try.func15, Try.ntmps15
      go_wp2
      go_ret
      exact ⟨ret_bool HB.out.symm, hB0⟩
  · have t1 : decide (1 ≤ s) = false := decide_eq_false q1
    have HB := Lib.hid (show dRightV l nx s = false by rw [hd, t1]; simp)
    clear HR0 HH0 hd
    go_enter Try.func15, Try.ntmps15
    go_wp2
    go_ret
    exact ⟨ret_bool HB.out.symm, hB0⟩
end Go.Proofs.Ytbhdehkdnenigaa

set_option linter.unusedVariables false
set_option linter.unusedSimpArgs false
namespace Go.Proofs.Ytbhdehkdnenigaa
open Go.RowKit Go.Proofs.YtbhdehkdnenigaaW.PrintWords Go.Proofs.YtbhdehkdnenigaaW.PrintLast
attribute [local go_sem] Vn.val

def aP.T5 : Bool × List (List Nat × List Nat) := (true, [([], []), ([0], [0]), ([], []), ([2], [2]), ([3, 1], [3]), ([1, 4], [1, 4]), ([5], [5]), ([6, 4], [6])])
def aP.B5 : List Nat := [0, 1, 0, 4, 15, 31, 63, 127]
theorem aP.tab5 : rtab .any (opsOf Try.f16 5) = aP.T5 := by kernel_rfl
theorem aP.bits5 : waitsOk aP.T5.2 aP.B5 = true := by kernel_rfl
def aP.T7 : Bool × List (List Nat × List Nat) := (true, [([], []), ([0], [0]), ([1], [1]), ([], []), ([3], [3]), ([4], [4]), ([5, 2], [5]), ([2, 6, 6], [2, 6]), ([7, 7, 0, 1, 2, 3, 4, 5, 6, 7], [7])])
def aP.B7 : List Nat := [0, 1, 3, 0, 8, 24, 63, 127, 255]
theorem aP.tab7 : rtab .any (opsOf Try.f16 7) = aP.T7 := by kernel_rfl
theorem aP.bits7 : waitsOk aP.T7.2 aP.B7 = true := by kernel_rfl
theorem made_slice {q : Nat → Int} {w : World} {b0 n c : Nat} {A : Option Addr} {ok : Nat → Prop} {xs : List Vn} (h : (kVq q).R 48 w b0 ok (.slice A n c) xs) : xs.length ≤ c ∧ Made q w b0 w.heap.size A xs := by
  obtain ⟨A', c', e, h1, h2⟩ := made_of h
  cases e
  exact ⟨h1, h2⟩
def noBucket : Value := .agg #[.int .i64 0, .slice none 0 0]
abbrev all64 : Int := -9223372036854775808
def three (w : World) (nx s nx2 : Int) (A B : Option Addr) (n k c d : Nat) : World := ((w.alloc (.cells #[.int .i64 nx, .slice A n c] 24)).alloc (.cells #[.int .i64 s, .int .i64 nx2, .slice B k d] 27)).alloc (.cells #[.int .i64 0, .slice none 0 0] 24)
theorem below3 (w : World) (o p q : Obj) : Below w.heap.size w (((w.alloc o).alloc p).alloc q) := (below2 w o p).alloc (by simp [go_sem]; omega) _
set_option maxRecDepth 100000 in
set_option maxHeartbeats 4000000 in
theorem apply_S (l m : List Vn) (nx s nx2 : Int) (A B : Option Addr) (c d : Nat) (w : World) (hC : kVn.C w A l.length l) (hl : l.length ≤ c) (HR : Room l) (hD : kVn.C w B m.length m) (hm : m.length ≤ d) (HQ : Room m) (h1 : s = nx) (h2 : l.length + m.length ≤ 256) (h3 : wrap64 (wrap64 (bsize l) + wrap64 (bsize m)) ≤ 65536) :
    Calls Try.prog 16 #[.agg #[.int .i64 nx, .slice A l.length c], .agg #[.int .i64 s, .int .i64 nx2, .slice B m.length d]] w fun e w' => ∃ v, e = .returned (.tuple #[.agg #[.int .i64 nx2, v], .int .i64 0]) ∧ kVn.R 48 w' w.heap.size (fun _ => True) v (mrg (since l all64) (since m all64)) ∧ (((mrg (since l all64) (since m all64)).map Vn.seq).Nodup → Kd.S kVn 48 w' w.heap.size (fun k => w.heap.size ≤ k) v (mrg (since l all64) (since m all64))) ∧ Below w.heap.size w w' := by
  have t1 : (s == nx) = true := by simpa using h1
  have t2 : (s != nx) = false := by simpa using h1
  have t3 : decide ((256 : Int) < (l.length : Int) + (m.length : Int)) = false := decide_eq_false (by omega)
  have t4 : decide ((65536 : Int) < wrap64 (wrap64 (bsize l) + wrap64 (bsize m))) = false := decide_eq_false (Int.not_lt.2 h3)
  have HY1 := fun w' (h : Below w.heap.size w w') => Lib.hid (bytes_any l nx A c w' (Kd.C_below hC h) hl HR.fits)
  have HY2 := fun w' (h : Below w.heap.size w w') => Lib.hid (bytes_any m nx2 B d w' (Kd.C_below hD h) hm HQ.fits)
  have HA1 := fun w' (h : Below w.heap.size w w') => Lib.hid (added_S l (-9223372036854775808) A c w' (Kd.C_below hC h) hl HR)
  have HA2 := fun w' (h : Below w.heap.size w w') => Lib.hid (added_S m (-9223372036854775808) B d w' (Kd.C_below hD h) hm HQ)
  clear hC hD h3
  go_enter Try.func16, Try.ntmps16
  subst h1
  go_upto_region 5 with fail
  have hwW := below3 w (.cells #[.int .i64 s, .slice A l.length c] 24) (.cells #[.int .i64 s, .int .i64 nx2, .slice B m.length d] 27) (.cells #[.int .i64 0, .slice none 0 0] 24)
  have b0 : (three w s s nx2 A B l.length m.length c d).cell? ⟨w.heap.size, 0, none⟩ = some (.int .i64 s) := by simp [three, go_sem]
  have b1 : (three w s s nx2 A B l.length m.length c d).cell? ⟨w.heap.size, 1, none⟩ = some (.slice A l.length c) := by simp [three, go_sem]
  have d1 : (three w s s nx2 A B l.length m.length c d).cell? ⟨w.heap.size + 1, 1, none⟩ = some (.int .i64 nx2) := by simp [three, go_sem]
  have d2 : (three w s s nx2 A B l.length m.length c d).cell? ⟨w.heap.size + 1, 2, none⟩ = some (.slice B m.length d) := by simp [three, go_sem]
  have r0 : (three w s s nx2 A B l.length m.length c d).cell? ⟨w.heap.size + 1 + 1, 0, none⟩ = some (.int .i64 0) := by simp [three, go_sem]
  have r1 : (three w s s nx2 A B l.length m.length c d).cell? ⟨w.heap.size + 1 + 1, 1, none⟩ = some (.slice none 0 0) := by simp [three, go_sem]
  have rf : ∀ j, (three w s s nx2 A B l.length m.length c d).frozen? ⟨w.heap.size + 1 + 1, j, none⟩ = false := fun j => by simp [three, go_sem]
  have hsz : w.heap.size + 3 ≤ (three w s s nx2 A B l.length m.length c d).heap.size := by simp [three, go_sem]
  unfold three at b0 b1 d1 d2 r0 r1 rf hsz
  generalize hnx : s = nx at *
  generalize (((w.alloc (.cells #[.int .i64 nx, .slice A l.length c] 24)).alloc (.cells #[.int .i64 nx, .int .i64 nx2, .slice B m.length d] 27)).alloc (.cells #[.int .i64 0, .slice none 0 0] 24)) = W at *
  refine start_ (n := 8) (S := fun w' => w'.cell? ⟨w.heap.size, 0, none⟩ = some (.int .i64 nx) ∧ w'.cell? ⟨w.heap.size, 1, none⟩ = some (.slice A l.length c) ∧ w'.cell? ⟨w.heap.size + 1, 1, none⟩ = some (.int .i64 nx2) ∧ w'.cell? ⟨w.heap.size + 1, 2, none⟩ = some (.slice B m.length d)) (ds := []) #[false, false, false, false, false, false, false, false] (by kernel_rfl) rfl rfl ⟨b0, b1, d1, d2⟩ (fun hHeld => ?_)
  refine with_tabW aP.tab5 aP.bits5 (fun HT_ HW_ => ?_)
  refine pure_ (i := 2) (N := some 28) (v := ?_) (a' := ?_) #[false, false, true, false, false, false, false, false] rfl rfl (any_of HT_.out (by kernel_rfl)) (fun _ _ _ h => h) (Or.inl ⟨by rfl, ?_⟩) ?_ ?_
  rotate_left
  · intro w'
    go_simp
    with_reducible rfl
  rotate_left
  · simp only [Act.put, List.setIfInBounds_toArray, List.set_cons_zero, List.set_cons_succ, i64_w, i32_w]
    rfl
  refine take_ (i := 0) (N := some 26) (v := ?_) (a' := ?_) #[true, false, true, false, false, false, false, false] rfl rfl (take_ofW HT_.out HW_.out (by kernel_rfl)) (fun _ _ _ h => h) (Or.inl ⟨by rfl, ?_⟩) hHeld ?_ ?_
  rotate_left
  · rintro w' ⟨s0, s1, s2, s3⟩
    go_simp
    with_reducible rfl
  rotate_left
  · simp only [Act.put, List.setIfInBounds_toArray, List.set_cons_zero, List.set_cons_succ, i64_w, i32_w]
    rfl
  refine take_ (i := 3) (N := some 29) (v := ?_) (a' := ?_) #[true, false, true, true, false, false, false, false] rfl rfl (take_ofW HT_.out HW_.out (by kernel_rfl)) (fun _ _ _ h => h) (Or.inl ⟨by rfl, ?_⟩) hHeld ?_ ?_
  rotate_left
  · rintro w' ⟨s0, s1, s2, s3⟩
    go_simp
    with_reducible rfl
  rotate_left
  · simp only [Act.put, List.setIfInBounds_toArray, List.set_cons_zero, List.set_cons_succ, i64_w, i32_w]
    rfl
  refine one_ (i := 1) (N := some 27) #[true, true, true, true, false, false, false, false] rfl rfl (one_of HT_.out (by kernel_rfl)) (by decide) (fun K hK => ?_)
  refine goes_ Try.func35 (by kernel_rfl) rfl #[.agg #[.int .i64 nx, .slice A l.length c]] (by rfl) rfl rfl (by simp only [List.map_toArray, List.map_cons, List.map_nil]; rfl) ?_
  with_reducible refine ((HY1 _ hwW.drew).out).mono ?_
  rintro e w3 ⟨rfl, hb⟩
  refine ⟨_, rfl, ?_⟩
  have hb3 := hb
  have hw3 : Below w.heap.size w w3 := hwW.drew.trans (hb.mono hwW.drew.size)
  refine hK.out _ _ ⟨pw_cell_below hb (hHeld.1), pw_cell_below hb (hHeld.2.1), pw_cell_below hb (hHeld.2.2.1), pw_cell_below hb (hHeld.2.2.2)⟩ (fun hHeld => ?_)
  clear hK K
  refine norm_ (a' := ?_) ?_ ?_
  rotate_left
  · show Act.put _ (some 27) _ = _
    simp only [Act.put, List.setIfInBounds_toArray, List.set_cons_zero, List.set_cons_succ, i64_w, i32_w]
    rfl
  refine one_ (i := 4) (N := some 30) #[true, true, true, true, true, false, false, false] rfl rfl (one_of HT_.out (by kernel_rfl)) (by decide) (fun K hK => ?_)
  refine goes_ Try.func35 (by kernel_rfl) rfl #[.agg #[.int .i64 nx2, .slice B m.length d]] (by rfl) rfl rfl (by simp only [List.map_toArray, List.map_cons, List.map_nil]; rfl) ?_
  with_reducible refine ((HY2 _ hw3).out).mono ?_
  rintro e w4 ⟨rfl, hb⟩
  refine ⟨_, rfl, ?_⟩
  have hb4 := hb
  have hw4 : Below w.heap.size w w4 := hw3.trans (hb.mono hw3.size)
  have hW4 : Below W.heap.size W w4 := ((Below.refl _ _).drew.trans hb3).trans (hb.mono hb3.size)
  clear hb
  refine hK.out _ _ ⟨pw_cell_below hb4 (hHeld.1), pw_cell_below hb4 (hHeld.2.1), pw_cell_below hb4 (hHeld.2.2.1), pw_cell_below hb4 (hHeld.2.2.2)⟩ (fun hHeld => ?_)
  clear hK K
  refine norm_ (a' := ?_) ?_ ?_
  rotate_left
  · show Act.put _ (some 30) _ = _
    simp only [Act.put, List.setIfInBounds_toArray, List.set_cons_zero, List.set_cons_succ, i64_w, i32_w]
    rfl
  refine pure_ (i := 5) (N := some 31) (v := ?_) (a' := ?_) #[true, true, true, true, true, true, false, false] rfl rfl (any_of HT_.out (by kernel_rfl)) (fun _ _ _ h => h) (Or.inl ⟨by rfl, ?_⟩) ?_ ?_
  rotate_left
  · intro w'
    go_simp
    with_reducible rfl
  rotate_left
  · simp only [Act.put, List.setIfInBounds_toArray, List.set_cons_zero, List.set_cons_succ, i64_w, i32_w]
    rfl
  refine pure_ (i := 6) (N := some 32) (v := ?_) (a' := ?_) #[true, true, true, true, true, true, true, false] rfl rfl (any_of HT_.out (by kernel_rfl)) (fun _ _ _ h => h) (Or.inl ⟨by rfl, ?_⟩) ?_ ?_
  rotate_left
  · intro w'
    go_simp
    with_reducible rfl
  rotate_left
  · simp only [Act.put, List.setIfInBounds_toArray, List.set_cons_zero, List.set_cons_succ, i64_w, i32_w]
    rfl
  refine pure_ (i := 7) (N := some 25) (v := ?_) (a' := ?_) #[true, true, true, true, true, true, true, true] rfl rfl (any_of HT_.out (by kernel_rfl)) (fun _ _ _ h => h) (Or.inl ⟨by rfl, ?_⟩) ?_ ?_
  rotate_left
  · intro w'
    go_simp
    with_reducible rfl
  rotate_left
  · simp only [Act.put, List.setIfInBounds_toArray, List.set_cons_zero, List.set_cons_succ, i64_w, i32_w]
    rfl
  refine done_ (done_of HT_.out (by kernel_rfl)) ?_
  have hHeld4 := hHeld
  clear hHeld
  go_upto_region 7 with fail
  refine start_ (n := 9) (S := fun w' => w'.cell? ⟨w.heap.size, 0, none⟩ = some (.int .i64 nx) ∧ w'.cell? ⟨w.heap.size, 1, none⟩ = some (.slice A l.length c) ∧ w'.cell? ⟨w.heap.size + 1, 1, none⟩ = some (.int .i64 nx2) ∧ w'.cell? ⟨w.heap.size + 1, 2, none⟩ = some (.slice B m.length d)) (ds := []) #[false, false, false, false, false, false, false, false, false] (by kernel_rfl) rfl rfl ⟨hHeld4.1, hHeld4.2.1, hHeld4.2.2.1, hHeld4.2.2.2⟩ (fun hHeld => ?_)
  refine with_tabW aP.tab7 aP.bits7 (fun HT_ HW_ => ?_)
  refine pure_ (i := 0) (N := some 34) (v := ?_) (a' := ?_) #[true, false, false, false, false, false, false, false, false] rfl rfl (any_of HT_.out (by kernel_rfl)) (fun _ _ _ h => h) (Or.inl ⟨by rfl, ?_⟩) ?_ ?_
  rotate_left
  · intro w'
    go_simp
    with_reducible rfl
  rotate_left
  · simp only [Act.put, List.setIfInBounds_toArray, List.set_cons_zero, List.set_cons_succ, i64_w, i32_w]
    rfl
  refine pure_ (i := 3) (N := some 37) (v := ?_) (a' := ?_) #[true, false, false, true, false, false, false, false, false] rfl rfl (any_of HT_.out (by kernel_rfl)) (fun _ _ _ h => h) (Or.inl ⟨by rfl, ?_⟩) ?_ ?_
  rotate_left
  · intro w'
    go_simp
    with_reducible rfl
  rotate_left
  · simp only [Act.put, List.setIfInBounds_toArray, List.set_cons_zero, List.set_cons_succ, i64_w, i32_w]
    rfl
  refine pure_ (i := 4) (N := some 38) (v := ?_) (a' := ?_) #[true, false, false, true, true, false, false, false, false] rfl rfl (any_of HT_.out (by kernel_rfl)) (fun _ _ _ h => h) (Or.inl ⟨by rfl, ?_⟩) ?_ ?_
  rotate_left
  · intro w'
    go_simp
    with_reducible rfl
  rotate_left
  · simp only [Act.put, List.setIfInBounds_toArray, List.set_cons_zero, List.set_cons_succ, i64_w, i32_w]
    rfl
  refine take_ (i := 1) (N := some 35) (v := ?_) (a' := ?_) #[true, true, false, true, true, false, false, false, false] rfl rfl (take_ofW HT_.out HW_.out (by kernel_rfl)) (fun _ _ _ h => h) (Or.inl ⟨by rfl, ?_⟩) hHeld ?_ ?_
  rotate_left
  · rintro w' ⟨s0, s1, s2, s3⟩
    go_simp
    with_reducible rfl
  rotate_left
  · simp only [Act.put, List.setIfInBounds_toArray, List.set_cons_zero, List.set_cons_succ, i64_w, i32_w]
    rfl
  refine take_ (i := 5) (N := some 39) (v := ?_) (a' := ?_) #[true, true, false, true, true, true, false, false, false] rfl rfl (take_ofW HT_.out HW_.out (by kernel_rfl)) (fun _ _ _ h => h) (Or.inl ⟨by rfl, ?_⟩) hHeld ?_ ?_
  rotate_left
  · rintro w' ⟨s0, s1, s2, s3⟩
    go_simp
    with_reducible rfl
  rotate_left
  · simp only [Act.put, List.setIfInBounds_toArray, List.set_cons_zero, List.set_cons_succ, i64_w, i32_w]
    rfl
  refine one_ (i := 2) (N := some 36) #[true, true, true, true, true, true, false, false, false] rfl rfl (one_of HT_.out (by kernel_rfl)) (by decide) (fun K hK => ?_)
  refine goes_ Try.func28 (by kernel_rfl) rfl #[.slice none 0 0, .slice A l.length c, .int .i64 (-9223372036854775808)] (by rfl) rfl rfl (by simp only [List.map_toArray, List.map_cons, List.map_nil]; rfl) ?_
  with_reducible refine ((HA1 _ hw4.drew).out).mono ?_
  rintro e w5 ⟨v5, rfl, hv, hb⟩
  refine ⟨_, rfl, ?_⟩
  have hb5 := hb
  have hw5 : Below w.heap.size w w5 := hw4.drew.trans (hb.mono hw4.drew.size)
  obtain ⟨A5, c5, rfl⟩ := Kd.S_slice hv
  have HV5 := Lib.hid hv
  clear hv
  refine hK.out _ _ ⟨pw_cell_below hb (hHeld.1), pw_cell_below hb (hHeld.2.1), pw_cell_below hb (hHeld.2.2.1), pw_cell_below hb (hHeld.2.2.2)⟩ (fun hHeld => ?_)
  clear hK K
  refine norm_ (a' := ?_) ?_ ?_
  rotate_left
  · show Act.put _ (some 36) _ = _
    simp only [Act.put, List.setIfInBounds_toArray, List.set_cons_zero, List.set_cons_succ, i64_w, i32_w]
    rfl
  refine one_ (i := 6) (N := some 40) #[true, true, true, true, true, true, true, false, false] rfl rfl (one_of HT_.out (by kernel_rfl)) (by decide) (fun K hK => ?_)
  refine goes_ Try.func28 (by kernel_rfl) rfl #[.slice none 0 0, .slice B m.length d, .int .i64 (-9223372036854775808)] (by rfl) rfl rfl (by simp only [List.map_toArray, List.map_cons, List.map_nil]; rfl) ?_
  with_reducible refine ((HA2 _ hw5).out).mono ?_
  rintro e w6 ⟨v6, rfl, hv, hb⟩
  refine ⟨_, rfl, ?_⟩
  have hb6 := hb
  have hw6 : Below w.heap.size w w6 := hw5.trans (hb.mono hw5.size)
  obtain ⟨A6, c6, rfl⟩ := Kd.S_slice hv
  have HV6 := Lib.hid hv
  clear hv
  refine hK.out _ _ ⟨pw_cell_below hb (hHeld.1), pw_cell_below hb (hHeld.2.1), pw_cell_below hb (hHeld.2.2.1), pw_cell_below hb (hHeld.2.2.2)⟩ (fun hHeld => ?_)
  clear hK K
  refine norm_ (a' := ?_) ?_ ?_
  rotate_left
  · show Act.put _ (some 40) _ = _
    simp only [Act.put, List.setIfInBounds_toArray, List.set_cons_zero, List.set_cons_succ, i64_w, i32_w]
    rfl
  refine one_ (i := 7) (N := some 41) #[true, true, true, true, true, true, true, true, false] rfl rfl (one_of HT_.out (by kernel_rfl)) (by decide) (fun K hK => ?_)
  have hN : W.heap.size ≤ w4.drew.heap.size := hW4.size
  have R5 : Kd.S kVn 48 w6 W.heap.size (fun k => k < w5.heap.size) (.slice A5 (since l (-9223372036854775808)).length c5) (since l (-9223372036854775808)) := Kd.S_below (Kd.S_lower (Kd.S_mono (Kd.S_bound HV5.out) (fun k hk => hk.2.2.1)) hN) hb6
  have R6 : Kd.S kVn 48 w6 W.heap.size (fun k => w5.heap.size ≤ k) (.slice A6 (since m (-9223372036854775808)).length c6) (since m (-9223372036854775808)) := Kd.S_lower HV6.out (Nat.le_trans hN hb5.size)
  obtain ⟨q, Q5, Q6⟩ := q_of_S R5 R6 (fun k h1 h2 => Nat.not_lt.2 h1 h2)
  obtain ⟨p1, M1⟩ := made_slice Q5
  obtain ⟨p2, M2⟩ := made_slice Q6
  have HM := Lib.hid (merged_any q _ _ A5 A6 c5 c6 W.heap.size w6 (Nat.le_trans (Nat.le_trans hN hb5.size) hb6.size) M1 M2 p1 p2 (by have := since_len l (-9223372036854775808); have := since_len m (-9223372036854775808); omega))
  clear R5 R6 Q5 Q6 M1 M2
  refine goes_ Try.func36 (by kernel_rfl) rfl #[.slice A5 (since l (-9223372036854775808)).length c5, .slice A6 (since m (-9223372036854775808)).length c6, .func (.func 37) #[] #[]] (by rfl) rfl rfl (by simp only [List.map_toArray, List.map_cons, List.map_nil]; rfl) ?_
  with_reducible refine (HM.out).mono ?_
  rintro e w7 ⟨v7, rfl, hv, ho, hb⟩
  refine ⟨_, rfl, ?_⟩
  have hb7 := hb
  have hw7 : Below w.heap.size w w7 := hw6.trans (hb.mono hw6.size)
  obtain ⟨A7, c7, rfl⟩ := Kd.R_slice hv
  have HV7 := Lib.hid hv
  clear hv ho
  refine hK.out _ _ ⟨pw_cell_below hb (hHeld.1), pw_cell_below hb (hHeld.2.1), pw_cell_below hb (hHeld.2.2.1), pw_cell_below hb (hHeld.2.2.2)⟩ (fun hHeld => ?_)
  clear hK K
  refine norm_ (a' := ?_) ?_ ?_
  rotate_left
  · show Act.put _ (some 41) _ = _
    simp only [Act.put, List.setIfInBounds_toArray, List.set_cons_zero, List.set_cons_succ, i64_w, i32_w]
    rfl
  refine pure_ (i := 8) (N := some 6) (v := ?_) (a' := ?_) #[true, true, true, true, true, true, true, true, true] rfl rfl (any_of HT_.out (by kernel_rfl)) (fun _ _ _ h => h) (Or.inl ⟨by rfl, ?_⟩) ?_ ?_
  rotate_left
  · intro w'
    go_simp
    with_reducible rfl
  rotate_left
  · simp only [Act.put, List.setIfInBounds_toArray, List.set_cons_zero, List.set_cons_succ, i64_w, i32_w]
    rfl
  refine done_ (done_of HT_.out (by kernel_rfl)) ?_
  have hW7 : Below W.heap.size W w7 := hW4.drew.trans ((hb5.trans ((hb6.trans (hb7.mono hb6.size)).mono hb5.size)).mono hW4.drew.size)
  have r07 := pw_cell_below hW7 r0
  have r17 := pw_cell_below hW7 r1
  have rf7 : ∀ j, w7.frozen? ⟨w.heap.size + 1 + 1, j, none⟩ = false := fun j => frozen_below hW7 (show w.heap.size + 1 + 1 < W.heap.size by omega) (rf j)
  have z1 := hHeld.2.2.1
  go_wp2
  have hR2 : (kVq q).R 48 w7 W.heap.size (fun k => W.heap.size ≤ k) (.slice A7 (mrg (since l all64) (since m all64)).length c7) (mrg (since l all64) (since m all64)) := Kd.R_mono (Kd.R_bound HV7.out) (fun k hk => hk.2.1)
  refine bodyPost_ret (v := .tuple #[.agg #[.int .i64 nx2, .slice A7 (mrg (since l all64) (since m all64)).length c7], .int .i64 0]) (by simp [results, Try.results16, go_sem, r07, r17]) rfl ?_
  have hR3 := Kd.R_lower (base' := w.heap.size) (Kd.R_mono (ok' := fun k => w.heap.size ≤ k) (Kd.R_far (p := ⟨w.heap.size + 1 + 1, 1, none⟩) (Kd.R_far (p := ⟨w.heap.size + 1 + 1, 0, none⟩) hR2 (fun k hk => by show k ≠ _; simp only; omega) (.int .i64 nx2)) (fun k hk => by show k ≠ _; simp only; omega) (.slice A7 (mrg (since l all64) (since m all64)).length c7)) (fun k hk => by omega)) (by omega)
  refine ⟨_, rfl, ?_, fun hn => ?_, ?_⟩
  · exact Kd.R_mono (q_plain hR3) (fun _ _ => trivial)
  · exact S_of_q hR3 hn
  · exact (hw7.setCell (by simp; omega) _).setCell (by simp; omega) _
theorem apply_any (l m : List Vn) (nx s nx2 : Int) (A B : Option Addr) (c d : Nat) (w : World) (hC : kVn.C w A l.length l) (hl : l.length ≤ c) (HR : Room l) (hD : kVn.C w B m.length m) (hm : m.length ≤ d) (HQ : Room m) (h1 : s = nx) (h2 : l.length + m.length ≤ 256) (h3 : wrap64 (wrap64 (bsize l) + wrap64 (bsize m)) ≤ 65536) :
    Calls Try.prog 16 #[.agg #[.int .i64 nx, .slice A l.length c], .agg #[.int .i64 s, .int .i64 nx2, .slice B m.length d]] w fun e w' => ∃ v, e = .returned (.tuple #[.agg #[.int .i64 nx2, v], .int .i64 0]) ∧ kVn.R 48 w' w.heap.size (fun _ => True) v (mrg (since l all64) (since m all64)) ∧ Below w.heap.size w w' := by
  refine (apply_S l m nx s nx2 A B c d w hC hl HR hD hm HQ h1 h2 h3).mono ?_
  rintro e w' ⟨v, he, hR, _, hb⟩
  exact ⟨v, he, hR, hb⟩
set_option maxRecDepth 100000 in
set_option maxHeartbeats 1000000 in
/-- refused for its marker, or for its count -/
theorem apply_marker (l m : List Vn) (nx s nx2 : Int) (A B : Option Addr) (c d : Nat) (w : World) (h1 : s ≠ nx) :
    Calls Try.prog 16 #[.agg #[.int .i64 nx, .slice A l.length c], .agg #[.int .i64 s, .int .i64 nx2, .slice B m.length d]] w fun e w' => e = .returned (.tuple #[noBucket, .int .i64 91]) ∧ Below w.heap.size w w' := by
  have t1 : (s == nx) = false := by simpa using h1
  have t2 : (s != nx) = true := by simpa using h1
  have hwW := below3 w (.cells #[.int .i64 nx, .slice A l.length c] 24) (.cells #[.int .i64 s, .int .i64 nx2, .slice B m.length d] 27) (.cells #[.int .i64 0, .slice none 0 0] 24)
  go_enter Try.func16, Try.ntmps16
  go_wp2
  refine bodyPost_ret (v := .tuple #[noBucket, .int .i64 91]) (by simp [results, Try.results16, go_sem, noBucket]) rfl ?_
  exact ⟨rfl, by first | exact hwW | exact (hwW.setCell (by show w.heap.size ≤ w.heap.size + 1 + 1; omega) _).setCell (by show w.heap.size ≤ w.heap.size + 1 + 1; omega) _⟩
end Go.Proofs.Ytbhdehkdnenigaa

namespace Go.Proofs.Ytbhdehkdnenigaa.PD3
open PDeltaLaid Go.RowKit Go.Proofs.YtbhdehkdnenigaaW.PrintWords Go.Proofs.YtbhdehkdnenigaaW.PrintLast Go.Proofs.YtbhdehkdnenigaaW.PrintMore
attribute [local go_sem] max2_int min2_int max_two min_two max_three min_three max_four min_four   -- for this text's walks alone
set_option linter.unusedVariables false
set_option linter.unusedSimpArgs false

/-! ### cofferlaw19_example: function 27 -/
def cofferlaw19_example.f  : Option (Int × (List (S48))) := some (5, (([(⟨(⟨#[97]⟩ : ByteArray), 1, false, (⟨#[120]⟩ : ByteArray), ([] : List (S60))⟩ : S48), (⟨(⟨#[97]⟩ : ByteArray), 4, true, (⟨#[]⟩ : ByteArray), ([] : List (S60))⟩ : S48), (⟨(⟨#[98]⟩ : ByteArray), 2, false, (⟨#[121]⟩ : ByteArray), ([] : List (S60))⟩ : S48)] : List (S48))))
set_option maxHeartbeats 8000000 in
set_option maxRecDepth 100000 in
theorem cofferlaw19_example.calls  (r1 : Int) (r2 : List (S48)) (w : World) (h : cofferlaw19_example.f  = some (r1, r2)) :
    Calls Try.prog 27 #[] w fun e w' => ∃ v1_ : Value, e = .returned (.agg #[.int .i64 r1, v1_]) ∧ Kd.S k48 48 w' w.heap.size (fun _ => True) v1_ r2 ∧ Below w.heap.size w w' := by
  have hu24 := Try.underlying24
  have hu48 := Try.underlying48
  have HB := Aside0.mk (Below.refl w.heap.size w)
  have H : (some (5, (([(⟨(⟨#[97]⟩ : ByteArray), 1, false, (⟨#[120]⟩ : ByteArray), ([] : List (S60))⟩ : S48), (⟨(⟨#[97]⟩ : ByteArray), 4, true, (⟨#[]⟩ : ByteArray), ([] : List (S60))⟩ : S48), (⟨(⟨#[98]⟩ : ByteArray), 2, false, (⟨#[121]⟩ : ByteArray), ([] : List (S60))⟩ : S48)] : List (S48))))) = some (r1, r2) := h
  clear h
  obtain ⟨y152, hy152⟩ : ∃ y_ : List (S48), y_ = (([(⟨(⟨#[97]⟩ : ByteArray), 1, false, (⟨#[120]⟩ : ByteArray), ([] : List (S60))⟩ : S48), (⟨(⟨#[97]⟩ : ByteArray), 4, true, (⟨#[]⟩ : ByteArray), ([] : List (S60))⟩ : S48), (⟨(⟨#[98]⟩ : ByteArray), 2, false, (⟨#[121]⟩ : ByteArray), ([] : List (S60))⟩ : S48)] : List (S48))) := ⟨_, rfl⟩
  replace H : (some (5, y152)) = some (r1, r2) := by first | (rw [hy152]; with_reducible exact H) | (have H2_ := (Option.bind_some _ _).symm.trans H; rw [hy152]; with_reducible exact H2_) | (have H2_ := (Option.bind_some _ _).symm.trans H; with_reducible exact H2_) | with_reducible exact H | (rw [hy152]; exact H) | exact H
  have Ny152 := Aside0.mk hy152
  clear hy152
  simp only [Option.some.injEq, Prod.mk.injEq] at H
  obtain ⟨rfl, rfl⟩ := H
  go_enter Try.func27, Try.ntmps27
  go_wp2_with (first | ((with_reducible refine gate_dst (N := 0) rfl ?_); refine box_event ?hg (N := 0) ?hd (cs := #[.int .i64 0, .slice none 0 0]) (t := 24) ?hr ?_; (case hd => rfl); (case hg => rfl); (case hr => first | (go_simp; done) | (go_simp; rfl)); intro gb151 hg w1 hbox hb; have n0_ := Aside0.mk (below_step (by repeat (first | (with_reducible first | exact HB.out | apply below_alloc | apply pw_below_drewN | apply below_drew1) | exact HB.out)) hb); have n1_ := Aside0.mk (hbox); have n2_ := Aside0.mk ((by rw [hg]; exact (below_size (by repeat (first | (with_reducible first | exact HB.out | apply below_alloc | apply pw_below_drewN | apply below_drew1) | exact HB.out))) : w.heap.size ≤ gb151)); have n3_ := Aside0.mk ((by rw [hg]; exact (below_size (by repeat (first | (with_reducible first | exact HB.out | apply below_alloc | apply pw_below_drewN | apply below_drew1) | exact HB.out))) : w.heap.size ≤ gb151)); clear HB; have HB := n0_; have BK151 := n1_; have GW151 := n2_; have GE151 := n3_; clear n0_ n1_ n2_ n3_; clear hb hbox hg) | ((with_reducible refine gate_dst (N := 4) rfl ?_); refine Kd.S_lit k48 _ 48 ?hg (N := 4) ?hd (xs := ([(⟨(⟨#[97]⟩ : ByteArray), 1, false, (⟨#[120]⟩ : ByteArray), ([] : List (S60))⟩ : S48), (⟨(⟨#[97]⟩ : ByteArray), 4, true, (⟨#[]⟩ : ByteArray), ([] : List (S60))⟩ : S48), (⟨(⟨#[98]⟩ : ByteArray), 2, false, (⟨#[121]⟩ : ByteArray), ([] : List (S60))⟩ : S48)] : List (S48))) (inner := [.string (⟨#[97]⟩ : ByteArray), .int .i64 1, .bool false, .string (⟨#[120]⟩ : ByteArray), .slice none 0 0, .string (⟨#[97]⟩ : ByteArray), .int .i64 4, .bool true, .string (⟨#[]⟩ : ByteArray), .slice none 0 0, .string (⟨#[98]⟩ : ByteArray), .int .i64 2, .bool false, .string (⟨#[121]⟩ : ByteArray), .slice none 0 0]) (ok := fun _ => True) (okp := fun _ => True) ?hr ?hp (fun _ hk => hk) trivial (Below.refl _ _) (Nat.le_refl _) (by simp) ?_; (case hd => rfl); (case hg => rfl); (case hr => first | (go_simp; done) | (go_simp; rfl)); (case hp => exact (Reps.c5 (show Kd.M k48 _ _ _ (⟨(⟨#[97]⟩ : ByteArray), 1, false, (⟨#[120]⟩ : ByteArray), ([] : List (S60))⟩ : S48) [.string (⟨#[97]⟩ : ByteArray), .int .i64 1, .bool false, .string (⟨#[120]⟩ : ByteArray), .slice none 0 0] from (k48_mkM _ _ _ (⟨(⟨#[97]⟩ : ByteArray), 1, false, (⟨#[120]⟩ : ByteArray), ([] : List (S60))⟩ : S48) (Kd.R_nil _ _ _ _ _))) (Reps.c5 (show Kd.M k48 _ _ _ (⟨(⟨#[97]⟩ : ByteArray), 4, true, (⟨#[]⟩ : ByteArray), ([] : List (S60))⟩ : S48) [.string (⟨#[97]⟩ : ByteArray), .int .i64 4, .bool true, .string (⟨#[]⟩ : ByteArray), .slice none 0 0] from (k48_mkM _ _ _ (⟨(⟨#[97]⟩ : ByteArray), 4, true, (⟨#[]⟩ : ByteArray), ([] : List (S60))⟩ : S48) (Kd.R_nil _ _ _ _ _))) (Reps.c5 (show Kd.M k48 _ _ _ (⟨(⟨#[98]⟩ : ByteArray), 2, false, (⟨#[121]⟩ : ByteArray), ([] : List (S60))⟩ : S48) [.string (⟨#[98]⟩ : ByteArray), .int .i64 2, .bool false, .string (⟨#[121]⟩ : ByteArray), .slice none 0 0] from (k48_mkM _ _ _ (⟨(⟨#[98]⟩ : ByteArray), 2, false, (⟨#[121]⟩ : ByteArray), ([] : List (S60))⟩ : S48) (Kd.R_nil _ _ _ _ _))) (Reps.none _ _))))); intro v153 w2 ho3 hb hg_ hnew_; clear hg_ hnew_; (first | rw [← Ny152.out] at ho3 | (simp only [Int.reduceToNat] at ho3; rw [← Ny152.out] at ho3)); have n0_ := Aside0.mk (Kd.S_lower ho3 (below_size (by repeat (first | (with_reducible first | exact HB.out | apply below_alloc | apply pw_below_drewN | apply below_drew1 | refine below_set ?_ GE151.out) | exact HB.out)))); have n1_ := Aside0.mk (blk_below (g := gb151) (o := .cells #[.int .i64 0, .slice none 0 0] 24 (0, 0)) (by (with_reducible repeat (first | refine blk_drewN ?_ _ | refine blk_drew ?_ | refine blk_alloc ?_ _)); exact BK151.out) hb); have n2_ := Aside0.mk (below_step (by repeat (first | (with_reducible first | exact HB.out | apply below_alloc | apply pw_below_drewN | apply below_drew1 | refine below_set ?_ GE151.out) | exact HB.out)) hb); clear BK151; clear HB; have HO154 := n0_; have BK151 := n1_; have HB := n2_; clear n0_ n1_ n2_; clear hb ho3; obtain ⟨Ao4, co4, eo4⟩ := Kd.S_slice HO154.out; subst eo4; have hcz5_0 : w2.cell? ⟨gb151, 0, none⟩ = some (.int .i64 0) := (blk_cell BK151.out 0).trans rfl; have hcz5_1 : w2.cell? ⟨gb151, 1, none⟩ = some (.slice none 0 0) := (blk_cell BK151.out 1).trans rfl; have hfz5_0 := blk_frozen BK151.out 0; have hfz5_1 := blk_frozen BK151.out 1))
  refine bodyPost_ret (results_cell_row rfl _ _ gb151 24 #[.int .i64 5, .slice Ao4 y152.length co4] (0, 0) _ rfl (by (with_reducible repeat (first | refine blk_drewN ?_ _ | refine blk_drew ?_ | refine blk_alloc ?_ _)); refine blk_put (cs := #[.int .i64 5, .slice none 0 0]) ?_ 1 _ rfl; (with_reducible repeat (first | refine blk_drewN ?_ _ | refine blk_drew ?_ | refine blk_alloc ?_ _)); refine blk_put (cs := #[.int .i64 0, .slice none 0 0]) ?_ 0 _ rfl; (with_reducible repeat (first | refine blk_drewN ?_ _ | refine blk_drew ?_ | refine blk_alloc ?_ _)); exact BK151.out) Try.underlying24 rfl (by kernel_rfl)) rfl ?_
  exact ⟨_, by first | rfl | (simp [errW_none, errW_some] <;> rfl) | (simp [*, errW_none, errW_some] <;> rfl), by (with_reducible repeat (first | apply Kd.S_alloc | apply Kd.S_drewN | apply Kd.S_drew)); exact Kd.S_mono (Kd.S_far (p := ⟨gb151, 1, none⟩) (Kd.S_far (p := ⟨gb151, 0, none⟩) (Kd.S_types HO154.out BK151.out (by decide)) (fun _ hk => hk.2) (.int .i64 5)) (fun _ hk => hk.2) (.slice Ao4 y152.length co4)) (fun _ hk => trivial), by repeat (first | (with_reducible first | exact HB.out | apply below_alloc | apply pw_below_drewN | apply below_drew1 | refine below_set ?_ GE151.out) | exact HB.out)⟩

-- NOT PRINTED: function 8 (cofferlaw19_first)

-- NOT PRINTED: function 29 (cofferref15_Own)

-- NOT PRINTED: function 10 (cofferref15_Copy)

end Go.Proofs.Ytbhdehkdnenigaa.PD3

set_option linter.unusedVariables false
set_option linter.unusedSimpArgs false
namespace Go.Proofs.Ytbhdehkdnenigaa
open Go.RowKit Go.Proofs.YtbhdehkdnenigaaW.PrintWords
attribute [local go_sem] Vn.val noDelta noBucket

def va1 : Vn := ⟨⟨#[97]⟩, 1, false, ⟨#[120]⟩, []⟩
def va4 : Vn := ⟨⟨#[97]⟩, 4, true, ⟨#[]⟩, []⟩
def vb2 : Vn := ⟨⟨#[98]⟩, 2, false, ⟨#[121]⟩, []⟩
def exL : List Vn := [va1, va4, vb2]
theorem example_any (w : World) : Calls Try.prog 27 #[] w fun e w' => ∃ A c, e = .returned (.agg #[.int .i64 5, .slice A 3 c]) ∧ 3 ≤ c ∧ kVn.C w' A 3 exL ∧ Below w.heap.size w w' := by
  refine (PD3.cofferlaw19_example.calls _ _ w rfl).mono ?_
  rintro e w' ⟨v, rfl, hv, hb⟩
  obtain ⟨A, c, rfl, hc, hC⟩ := Kd.S_reads hv
  exact ⟨A, c, rfl, hc, C_of48 hC, hb⟩
def flat (x : Vn) : List Value := [.string x.key, .int .i64 x.seq, .bool x.gone, .string x.data, .slice none 0 0]
theorem flat_K (w : World) (x : Vn) (h : x.pairs = []) : kVn.K w x (flat x) := by
  have := kVn_mk w x (A := none) (c := 0) (by rw [h]; exact Nat.le_refl _) (by rw [h]; exact ⟨rfl, by decide, fun h => absurd h (by decide)⟩)
  rw [h] at this
  exact this
theorem C_one (w : World) (b : Nat) (hb : b = w.heap.size) (x : Vn) (hx : x.pairs = []) : kVn.C (w.alloc (.cells #[.string x.key, .int .i64 x.seq, .bool x.gone, .string x.data, .slice none 0 0] 48)) (some ⟨b, 0, none⟩) 1 [x] := by
  subst hb
  refine ⟨rfl, by decide, fun _ => ⟨_, rfl, fun j p hj => ?_⟩⟩
  match j, hj with
  | 0, hj =>
    cases hj
    refine ⟨flat x, rfl, flat_K _ x hx, fun i u hu => ?_⟩
    match i, hu with
    | 0, hu => cases hu; simp [go_sem, add_plain, show kVn.sz = 5 from rfl]
    | 1, hu => cases hu; simp [go_sem, add_plain, show kVn.sz = 5 from rfl]
    | 2, hu => cases hu; simp [go_sem, add_plain, show kVn.sz = 5 from rfl]
    | 3, hu => cases hu; simp [go_sem, add_plain, show kVn.sz = 5 from rfl]
    | 4, hu => cases hu; simp [go_sem, add_plain, show kVn.sz = 5 from rfl]
theorem C_two (w : World) (b : Nat) (hb : b = w.heap.size) (x y : Vn) (hx : x.pairs = []) (hy : y.pairs = []) : kVn.C (w.alloc (.cells #[.string x.key, .int .i64 x.seq, .bool x.gone, .string x.data, .slice none 0 0, .string y.key, .int .i64 y.seq, .bool y.gone, .string y.data, .slice none 0 0] 48)) (some ⟨b, 0, none⟩) 2 [x, y] := by
  subst hb
  refine ⟨rfl, by decide, fun _ => ⟨_, rfl, fun j p hj => ?_⟩⟩
  match j, hj with
  | 0, hj =>
    cases hj
    refine ⟨flat x, rfl, flat_K _ x hx, fun i u hu => ?_⟩
    match i, hu with
    | 0, hu => cases hu; simp [go_sem, add_plain, show kVn.sz = 5 from rfl]
    | 1, hu => cases hu; simp [go_sem, add_plain, show kVn.sz = 5 from rfl]
    | 2, hu => cases hu; simp [go_sem, add_plain, show kVn.sz = 5 from rfl]
    | 3, hu => cases hu; simp [go_sem, add_plain, show kVn.sz = 5 from rfl]
    | 4, hu => cases hu; simp [go_sem, add_plain, show kVn.sz = 5 from rfl]
  | 1, hj =>
    cases hj
    refine ⟨flat y, rfl, flat_K _ y hy, fun i u hu => ?_⟩
    match i, hu with
    | 0, hu => cases hu; simp [go_sem, add_plain, show kVn.sz = 5 from rfl]
    | 1, hu => cases hu; simp [go_sem, add_plain, show kVn.sz = 5 from rfl]
    | 2, hu => cases hu; simp [go_sem, add_plain, show kVn.sz = 5 from rfl]
    | 3, hu => cases hu; simp [go_sem, add_plain, show kVn.sz = 5 from rfl]
    | 4, hu => cases hu; simp [go_sem, add_plain, show kVn.sz = 5 from rfl]
theorem fits_small (x : Vn) (h : x = va1 ∨ x = va4 ∨ x = vb2) : x.Fits ∧ x.pairs.length * 32 ≤ 140737488351232 := by
  rcases h with rfl | rfl | rfl
  all_goals exact ⟨⟨by decide, by decide, fun p hp => by cases hp⟩, by decide⟩
theorem room_of {l : List Vn} (h : l.length ≤ 3) (hm : ∀ x ∈ l, x = va1 ∨ x = va4 ∨ x = vb2) : Room l :=
  ⟨by omega, fun x hx => (fits_small x (hm x hx)).2, fun x hx => (fits_small x (hm x hx)).1⟩
theorem room_ex : Room exL := room_of (by decide) (fun x hx => by simpa [exL] using hx)
theorem room_u : Room [va1, vb2] := room_of (by decide) (fun x hx => by simp at hx; rcases hx with h | h <;> simp [h])
theorem room_d : Room [va4] := room_of (by decide) (fun x hx => by simp at hx; simp [hx])
theorem since_ex : since exL 3 = [va4] := by decide
theorem mrg_ex : mrg (since [va1, vb2] all64) (since [va4] all64) = exL := by
  have h1 : since [va1, vb2] all64 = [va1, vb2] := by decide
  have h2 : since [va4] all64 = [va4] := by decide
  rw [h1, h2, mrg, if_neg (of_decide_eq_false (show decide (ordE va4 va1 < 0) = false by kernel_rfl)), mrg, if_pos (of_decide_eq_true (show decide (ordE va4 vb2 < 0) = true by kernel_rfl)), mrg_end (.inr rfl)]
  rfl
theorem right_d : dRightV [va4] 5 3 = true := by kernel_rfl
theorem right_v : dRightV exL 5 6 = false := rfl
theorem since_ex3 (A : Option Addr) (c : Nat) (w : World) (hC : kVn.C w A 3 exL) (hc : 3 ≤ c) :
    Calls Try.prog 9 #[.agg #[.int .i64 5, .slice A 3 c], .int .i64 3] w fun e w' => ∃ B d, e = .returned (.tuple #[.agg #[.int .i64 3, .int .i64 5, .slice B 1 d], .int .i64 0]) ∧ 1 ≤ d ∧ kVn.C w' B 1 [va4] ∧ Below w.heap.size w w' := by
  refine (since_any exL 5 3 A c w hC hc room_ex (by decide) (by decide)).mono ?_
  rintro e w' ⟨v, rfl, hv, hb⟩
  rw [since_ex] at hv
  obtain ⟨B, d, rfl, hd, hD⟩ := Kd.R_reads hv
  exact ⟨B, d, rfl, hd, hD, hb⟩
theorem since_ex6 (A : Option Addr) (c : Nat) (w : World) :
    Calls Try.prog 9 #[.agg #[.int .i64 5, .slice A 3 c], .int .i64 6] w fun e w' => e = .returned (.tuple #[.agg #[.int .i64 0, .int .i64 0, .slice none 0 0], .int .i64 1]) ∧ Below w.heap.size w w' :=
  since_bad exL 5 6 A c w (.inr (by decide))
theorem apply_ex (A B : Option Addr) (c d : Nat) (w : World) (hC : kVn.C w A 2 [va1, vb2]) (hc : 2 ≤ c) (hD : kVn.C w B 1 [va4]) (hd : 1 ≤ d) :
    Calls Try.prog 16 #[.agg #[.int .i64 3, .slice A 2 c], .agg #[.int .i64 3, .int .i64 5, .slice B 1 d]] w fun e w' => ∃ G k, e = .returned (.tuple #[.agg #[.int .i64 5, .slice G 3 k], .int .i64 0]) ∧ 3 ≤ k ∧ kVn.C w' G 3 exL ∧ Below w.heap.size w w' := by
  refine (apply_any [va1, vb2] [va4] 3 3 5 A B c d w hC hc room_u hD hd room_d rfl (by decide) (of_decide_eq_true (by kernel_rfl))).mono ?_
  rintro e w' ⟨v, rfl, hv, hb⟩
  rw [mrg_ex] at hv
  obtain ⟨G, k, rfl, hk, hG⟩ := Kd.R_reads hv
  exact ⟨G, k, rfl, hk, hG, hb⟩
theorem apply_ex2 (A B : Option Addr) (c d : Nat) (w : World) :
    Calls Try.prog 16 #[.agg #[.int .i64 5, .slice A 3 c], .agg #[.int .i64 3, .int .i64 5, .slice B 1 d]] w fun e w' => e = .returned (.tuple #[.agg #[.int .i64 0, .slice none 0 0], .int .i64 91]) ∧ Below w.heap.size w w' :=
  apply_marker exL [va4] 5 3 5 A B c d w (by decide)
theorem same_d (A B : Option Addr) (c d : Nat) (w : World) (hC : kVn.C w A 1 [va4]) (hc : 1 ≤ c) (hD : kVn.C w B 1 [va4]) (hd : 1 ≤ d) :
    Calls Try.prog 13 #[.agg #[.int .i64 3, .int .i64 5, .slice A 1 c], .agg #[.int .i64 3, .int .i64 5, .slice B 1 d]] w fun e w' => e = .returned (.bool true) ∧ Below w.heap.size w w' := by
  refine (same19_any [va4] [va4] 3 5 3 5 A B c d w hC hD hc hd).mono ?_
  rintro e w' ⟨rfl, hb⟩
  exact ⟨by simp [sVns], hb⟩
theorem same_v (A B : Option Addr) (c d : Nat) (w : World) (hC : kVn.C w A 3 exL) (hc : 3 ≤ c) (hD : kVn.C w B 3 exL) (hd : 3 ≤ d) :
    Calls Try.prog 18 #[.agg #[.int .i64 5, .slice A 3 c], .agg #[.int .i64 5, .slice B 3 d]] w fun e w' => e = .returned (.bool true) ∧ Below w.heap.size w w' := by
  refine (same_any exL exL 5 5 A B c d w hC hD hc hd).mono ?_
  rintro e w' ⟨rfl, hb⟩
  exact ⟨by simp [sVns], hb⟩
theorem right_ex1 (A : Option Addr) (c : Nat) (w : World) (hC : kVn.C w A 1 [va4]) (hc : 1 ≤ c) :
    Calls Try.prog 15 #[.agg #[.int .i64 3, .int .i64 5, .slice A 1 c]] w fun e w' => e = .returned (.bool true) ∧ Below w.heap.size w w' := by
  refine (dRight_any [va4] 5 3 A c w hC hc room_d.fits).mono ?_
  rintro e w' ⟨rfl, hb⟩
  exact ⟨by rw [right_d], hb⟩
theorem right_ex2 (A : Option Addr) (c : Nat) (w : World) (hC : kVn.C w A 3 exL) (hc : 3 ≤ c) :
    Calls Try.prog 15 #[.agg #[.int .i64 6, .int .i64 5, .slice A 3 c]] w fun e w' => e = .returned (.bool false) ∧ Below w.heap.size w w' := by
  refine (dRight_any exL 5 6 A c w hC hc room_ex.fits).mono ?_
  rintro e w' ⟨rfl, hb⟩
  exact ⟨by rw [right_v], hb⟩
end Go.Proofs.Ytbhdehkdnenigaa

set_option linter.unusedVariables false
set_option linter.unusedSimpArgs false
namespace Go.Proofs.Ytbhdehkdnenigaa
open Go.RowKit Go.Proofs.YtbhdehkdnenigaaW.PrintWords
theorem bt {x y z : World} (a : Below x.heap.size x y) (b : Below y.heap.size y z) : Below x.heap.size x z := a.trans (b.mono a.size)
theorem u8_C (w5 : World) : kVn.C (World.alloc (World.alloc w5 (.cells #[.int .i64 0, .slice none 0 0] 24)) (.cells #[.string ⟨#[97]⟩, .int .i64 4, .bool true, .string ⟨#[]⟩, .slice none 0 0] 48)) (some ⟨w5.heap.size + 1, 0, none⟩) 1 [va4] := by
  have h := C_one (World.alloc w5 (.cells #[.int .i64 0, .slice none 0 0] 24)) (w5.heap.size + 1) (by simp [go_sem]) va4 rfl
  exact h
set_option maxRecDepth 100000 in
set_option maxHeartbeats 2000000 in
theorem first_any (w : World) : Calls Try.prog 8 #[] w fun e w' => e = .returned (.bool true) ∧ Below w.heap.size w w' := by
  go_enter Try.func8, Try.ntmps8
  go_wp2_with (first
    | (go_at_call 27; with_reducible refine (example_any _).mono ?_; rintro e w1 ⟨A1, c1, rfl, hc1, hC1, hb1⟩; have HC1 := Lib.hid hC1; clear hC1; have L1 := below1 w1 (.cells #[.int .i64 5, .slice A1 3 c1] 24))
    | (go_at_call 9; with_reducible refine (since_ex3 A1 c1 _ (Kd.C_below HC1.out L1) hc1).mono ?_; rintro e w2 ⟨A2, c2, rfl, hc2, hC2, hb2⟩; have HC2 := Lib.hid hC2; clear hC2; have L2 := below1 w2 (.cells #[.int .i64 3, .int .i64 5, .slice A2 1 c2] 27); have x10 : World.cell? (World.alloc w2 (.cells #[.int .i64 3, .int .i64 5, .slice A2 1 c2] 27)) ⟨w1.heap.size, 0, none⟩ = some (.int .i64 5) := pw_cell_below L2 (box_cell hb2 (i := 0) rfl); have x11 : World.cell? (World.alloc w2 (.cells #[.int .i64 3, .int .i64 5, .slice A2 1 c2] 27)) ⟨w1.heap.size, 1, none⟩ = some (.slice A1 3 c1) := pw_cell_below L2 (box_cell hb2 (i := 1) rfl))
    | (go_at_call 9; with_reducible refine (since_ex6 A1 c1 _).mono ?_; rintro e w3 ⟨rfl, hb3⟩; have L5 : Below w3.heap.size w3 (World.alloc (World.alloc (World.alloc w3 (.cells #[.int .i64 0, .int .i64 0, .slice none 0 0] 27)) (.cells #[.string ⟨#[97]⟩, .int .i64 1, .bool false, .string ⟨#[120]⟩, .slice none 0 0, .string ⟨#[98]⟩, .int .i64 2, .bool false, .string ⟨#[121]⟩, .slice none 0 0] 48)) (.cells #[.int .i64 3, .slice (some ⟨w3.heap.size + 1, 0, none⟩) 2 2] 24)) := below3 _ _ _ _; have U5 : Hid (kVn.C (World.alloc (World.alloc (World.alloc w3 (.cells #[.int .i64 0, .int .i64 0, .slice none 0 0] 27)) (.cells #[.string ⟨#[97]⟩, .int .i64 1, .bool false, .string ⟨#[120]⟩, .slice none 0 0, .string ⟨#[98]⟩, .int .i64 2, .bool false, .string ⟨#[121]⟩, .slice none 0 0] 48)) (.cells #[.int .i64 3, .slice (some ⟨w3.heap.size + 1, 0, none⟩) 2 2] 24)) (some ⟨w3.heap.size + 1, 0, none⟩) 2 [va1, vb2]) := Lib.hid (Kd.C_below (C_two (World.alloc w3 (.cells #[.int .i64 0, .int .i64 0, .slice none 0 0] 27)) (w3.heap.size + 1) (by simp [go_sem]) va1 vb2 rfl rfl) (below1 _ _)); have y50 : World.cell? (World.alloc (World.alloc (World.alloc w3 (.cells #[.int .i64 0, .int .i64 0, .slice none 0 0] 27)) (.cells #[.string ⟨#[97]⟩, .int .i64 1, .bool false, .string ⟨#[120]⟩, .slice none 0 0, .string ⟨#[98]⟩, .int .i64 2, .bool false, .string ⟨#[121]⟩, .slice none 0 0] 48)) (.cells #[.int .i64 3, .slice (some ⟨w3.heap.size + 1, 0, none⟩) 2 2] 24)) ⟨w2.heap.size, 0, none⟩ = some (.int .i64 3) := pw_cell_below L5 (box_cell hb3 (i := 0) rfl); have y51 : World.cell? (World.alloc (World.alloc (World.alloc w3 (.cells #[.int .i64 0, .int .i64 0, .slice none 0 0] 27)) (.cells #[.string ⟨#[97]⟩, .int .i64 1, .bool false, .string ⟨#[120]⟩, .slice none 0 0, .string ⟨#[98]⟩, .int .i64 2, .bool false, .string ⟨#[121]⟩, .slice none 0 0] 48)) (.cells #[.int .i64 3, .slice (some ⟨w3.heap.size + 1, 0, none⟩) 2 2] 24)) ⟨w2.heap.size, 1, none⟩ = some (.int .i64 5) := pw_cell_below L5 (box_cell hb3 (i := 1) rfl); have y52 : World.cell? (World.alloc (World.alloc (World.alloc w3 (.cells #[.int .i64 0, .int .i64 0, .slice none 0 0] 27)) (.cells #[.string ⟨#[97]⟩, .int .i64 1, .bool false, .string ⟨#[120]⟩, .slice none 0 0, .string ⟨#[98]⟩, .int .i64 2, .bool false, .string ⟨#[121]⟩, .slice none 0 0] 48)) (.cells #[.int .i64 3, .slice (some ⟨w3.heap.size + 1, 0, none⟩) 2 2] 24)) ⟨w2.heap.size, 2, none⟩ = some (.slice A2 1 c2) := pw_cell_below L5 (box_cell hb3 (i := 2) rfl); have x50 : World.cell? (World.alloc (World.alloc (World.alloc w3 (.cells #[.int .i64 0, .int .i64 0, .slice none 0 0] 27)) (.cells #[.string ⟨#[97]⟩, .int .i64 1, .bool false, .string ⟨#[120]⟩, .slice none 0 0, .string ⟨#[98]⟩, .int .i64 2, .bool false, .string ⟨#[121]⟩, .slice none 0 0] 48)) (.cells #[.int .i64 3, .slice (some ⟨w3.heap.size + 1, 0, none⟩) 2 2] 24)) ⟨w1.heap.size, 0, none⟩ = some (.int .i64 5) := pw_cell_below L5 (pw_cell_below hb3 x10); have x51 : World.cell? (World.alloc (World.alloc (World.alloc w3 (.cells #[.int .i64 0, .int .i64 0, .slice none 0 0] 27)) (.cells #[.string ⟨#[97]⟩, .int .i64 1, .bool false, .string ⟨#[120]⟩, .slice none 0 0, .string ⟨#[98]⟩, .int .i64 2, .bool false, .string ⟨#[121]⟩, .slice none 0 0] 48)) (.cells #[.int .i64 3, .slice (some ⟨w3.heap.size + 1, 0, none⟩) 2 2] 24)) ⟨w1.heap.size, 1, none⟩ = some (.slice A1 3 c1) := pw_cell_below L5 (pw_cell_below hb3 x11); have K25 := Lib.hid (bt (box_below hb3) L5); have K15 := Lib.hid (bt (box_below hb2) K25.out))
    | (go_at_call 16; with_reducible refine (apply_ex (some ⟨w3.heap.size + 1, 0, none⟩) A2 2 c2 _ U5.out (Nat.le_refl _) (Kd.C_below HC2.out K25.out) hc2).mono ?_; rintro e w4 ⟨A4, c4, rfl, hc4, hC4, hb4⟩; have HC4 := Lib.hid hC4; clear hC4; have L6 : Below w4.heap.size w4 (World.alloc w4 (.cells #[.int .i64 5, .slice A4 3 c4] 24)) := below1 _ _; have y60 : World.cell? (World.alloc w4 (.cells #[.int .i64 5, .slice A4 3 c4] 24)) ⟨w2.heap.size, 0, none⟩ = some (.int .i64 3) := pw_cell_below L6 (pw_cell_below hb4 y50); have y61 : World.cell? (World.alloc w4 (.cells #[.int .i64 5, .slice A4 3 c4] 24)) ⟨w2.heap.size, 1, none⟩ = some (.int .i64 5) := pw_cell_below L6 (pw_cell_below hb4 y51); have y62 : World.cell? (World.alloc w4 (.cells #[.int .i64 5, .slice A4 3 c4] 24)) ⟨w2.heap.size, 2, none⟩ = some (.slice A2 1 c2) := pw_cell_below L6 (pw_cell_below hb4 y52); have x60 : World.cell? (World.alloc w4 (.cells #[.int .i64 5, .slice A4 3 c4] 24)) ⟨w1.heap.size, 0, none⟩ = some (.int .i64 5) := pw_cell_below L6 (pw_cell_below hb4 x50); have x61 : World.cell? (World.alloc w4 (.cells #[.int .i64 5, .slice A4 3 c4] 24)) ⟨w1.heap.size, 1, none⟩ = some (.slice A1 3 c1) := pw_cell_below L6 (pw_cell_below hb4 x51); have K26 := Lib.hid (bt (bt K25.out hb4) L6); have K16 := Lib.hid (bt (bt K15.out hb4) L6))
    | (go_at_call 16; with_reducible refine (apply_ex2 A1 A2 c1 c2 _).mono ?_; rintro e w5 ⟨rfl, hb5⟩; have L8 : Below w5.heap.size w5 (World.alloc (World.alloc w5 (.cells #[.int .i64 0, .slice none 0 0] 24)) (.cells #[.string ⟨#[97]⟩, .int .i64 4, .bool true, .string ⟨#[]⟩, .slice none 0 0] 48)) := below2 _ _ _; have L7 : Below w5.heap.size w5 (World.alloc w5 (.cells #[.int .i64 0, .slice none 0 0] 24)) := below1 _ _; have U8 : Hid (kVn.C (World.alloc (World.alloc w5 (.cells #[.int .i64 0, .slice none 0 0] 24)) (.cells #[.string ⟨#[97]⟩, .int .i64 4, .bool true, .string ⟨#[]⟩, .slice none 0 0] 48)) (some ⟨w5.heap.size + 1, 0, none⟩) 1 [va4]) := Lib.hid (u8_C w5); have y70 : World.cell? (World.alloc w5 (.cells #[.int .i64 0, .slice none 0 0] 24)) ⟨w2.heap.size, 0, none⟩ = some (.int .i64 3) := pw_cell_below L7 (pw_cell_below hb5 y60); have y71 : World.cell? (World.alloc w5 (.cells #[.int .i64 0, .slice none 0 0] 24)) ⟨w2.heap.size, 1, none⟩ = some (.int .i64 5) := pw_cell_below L7 (pw_cell_below hb5 y61); have y72 : World.cell? (World.alloc w5 (.cells #[.int .i64 0, .slice none 0 0] 24)) ⟨w2.heap.size, 2, none⟩ = some (.slice A2 1 c2) := pw_cell_below L7 (pw_cell_below hb5 y62); have y80 : World.cell? (World.alloc (World.alloc w5 (.cells #[.int .i64 0, .slice none 0 0] 24)) (.cells #[.string ⟨#[97]⟩, .int .i64 4, .bool true, .string ⟨#[]⟩, .slice none 0 0] 48)) ⟨w2.heap.size, 0, none⟩ = some (.int .i64 3) := pw_cell_below L8 (pw_cell_below hb5 y60); have y81 : World.cell? (World.alloc (World.alloc w5 (.cells #[.int .i64 0, .slice none 0 0] 24)) (.cells #[.string ⟨#[97]⟩, .int .i64 4, .bool true, .string ⟨#[]⟩, .slice none 0 0] 48)) ⟨w2.heap.size, 1, none⟩ = some (.int .i64 5) := pw_cell_below L8 (pw_cell_below hb5 y61); have y82 : World.cell? (World.alloc (World.alloc w5 (.cells #[.int .i64 0, .slice none 0 0] 24)) (.cells #[.string ⟨#[97]⟩, .int .i64 4, .bool true, .string ⟨#[]⟩, .slice none 0 0] 48)) ⟨w2.heap.size, 2, none⟩ = some (.slice A2 1 c2) := pw_cell_below L8 (pw_cell_below hb5 y62); have x80 : World.cell? (World.alloc (World.alloc w5 (.cells #[.int .i64 0, .slice none 0 0] 24)) (.cells #[.string ⟨#[97]⟩, .int .i64 4, .bool true, .string ⟨#[]⟩, .slice none 0 0] 48)) ⟨w1.heap.size, 0, none⟩ = some (.int .i64 5) := pw_cell_below L8 (pw_cell_below hb5 x60); have x81 : World.cell? (World.alloc (World.alloc w5 (.cells #[.int .i64 0, .slice none 0 0] 24)) (.cells #[.string ⟨#[97]⟩, .int .i64 4, .bool true, .string ⟨#[]⟩, .slice none 0 0] 48)) ⟨w1.heap.size, 1, none⟩ = some (.slice A1 3 c1) := pw_cell_below L8 (pw_cell_below hb5 x61); have z80 : World.cell? (World.alloc (World.alloc w5 (.cells #[.int .i64 0, .slice none 0 0] 24)) (.cells #[.string ⟨#[97]⟩, .int .i64 4, .bool true, .string ⟨#[]⟩, .slice none 0 0] 48)) ⟨w4.heap.size, 0, none⟩ = some (.int .i64 5) := pw_cell_below L8 (box_cell hb5 (i := 0) rfl); have z81 : World.cell? (World.alloc (World.alloc w5 (.cells #[.int .i64 0, .slice none 0 0] 24)) (.cells #[.string ⟨#[97]⟩, .int .i64 4, .bool true, .string ⟨#[]⟩, .slice none 0 0] 48)) ⟨w4.heap.size, 1, none⟩ = some (.slice A4 3 c4) := pw_cell_below L8 (box_cell hb5 (i := 1) rfl); have K28 := Lib.hid (bt (bt K26.out hb5) L8); have K18 := Lib.hid (bt (bt K16.out hb5) L8); have K48 := Lib.hid (bt (box_below hb5) L8))
    | (go_at_call 13; with_reducible refine (same_d A2 (some ⟨w5.heap.size + 1, 0, none⟩) c2 1 _ (Kd.C_below HC2.out K28.out) hc2 U8.out (Nat.le_refl _)).mono ?_; rintro e w6 ⟨rfl, hb6⟩; have y90 : World.cell? w6 ⟨w2.heap.size, 0, none⟩ = some (.int .i64 3) := pw_cell_below hb6 y80; have y91 : World.cell? w6 ⟨w2.heap.size, 1, none⟩ = some (.int .i64 5) := pw_cell_below hb6 y81; have y92 : World.cell? w6 ⟨w2.heap.size, 2, none⟩ = some (.slice A2 1 c2) := pw_cell_below hb6 y82; have x90 : World.cell? w6 ⟨w1.heap.size, 0, none⟩ = some (.int .i64 5) := pw_cell_below hb6 x80; have x91 : World.cell? w6 ⟨w1.heap.size, 1, none⟩ = some (.slice A1 3 c1) := pw_cell_below hb6 x81; have z90 : World.cell? w6 ⟨w4.heap.size, 0, none⟩ = some (.int .i64 5) := pw_cell_below hb6 z80; have z91 : World.cell? w6 ⟨w4.heap.size, 1, none⟩ = some (.slice A4 3 c4) := pw_cell_below hb6 z81; have K29 := Lib.hid (bt K28.out hb6); have K19 := Lib.hid (bt K18.out hb6); have K49 := Lib.hid (bt K48.out hb6))
    | (go_at_call 18; with_reducible refine (same_v A4 A1 c4 c1 _ (Kd.C_below HC4.out K49.out) hc4 (Kd.C_below HC1.out K19.out) hc1).mono ?_; rintro e w7 ⟨rfl, hb7⟩; have ya0 : World.cell? w7 ⟨w2.heap.size, 0, none⟩ = some (.int .i64 3) := pw_cell_below hb7 y90; have ya1 : World.cell? w7 ⟨w2.heap.size, 1, none⟩ = some (.int .i64 5) := pw_cell_below hb7 y91; have ya2 : World.cell? w7 ⟨w2.heap.size, 2, none⟩ = some (.slice A2 1 c2) := pw_cell_below hb7 y92; have xa0 : World.cell? w7 ⟨w1.heap.size, 0, none⟩ = some (.int .i64 5) := pw_cell_below hb7 x90; have xa1 : World.cell? w7 ⟨w1.heap.size, 1, none⟩ = some (.slice A1 3 c1) := pw_cell_below hb7 x91; have K2a := Lib.hid (bt K29.out hb7); have K1a := Lib.hid (bt K19.out hb7))
    | (go_at_call 15; with_reducible refine (right_ex1 A2 c2 _ (Kd.C_below HC2.out K2a.out) hc2).mono ?_; rintro e w8 ⟨rfl, hb8⟩; have xb0 : World.cell? w8 ⟨w1.heap.size, 0, none⟩ = some (.int .i64 5) := pw_cell_below hb8 xa0; have xb1 : World.cell? w8 ⟨w1.heap.size, 1, none⟩ = some (.slice A1 3 c1) := pw_cell_below hb8 xa1; have K1b := Lib.hid (bt K1a.out hb8))
    | (go_at_call 15; with_reducible refine (right_ex2 A1 c1 _ (Kd.C_below HC1.out K1b.out) hc1).mono ?_; rintro e w9 ⟨rfl, hb9⟩; have KF := Lib.hid (hb1.trans ((bt K1b.out hb9).mono hb1.size))))
  go_ret
  exact ⟨rfl, KF.out⟩
end Go.Proofs.Ytbhdehkdnenigaa

set_option linter.unusedVariables false
set_option linter.unusedSimpArgs false
namespace Go.Proofs.Ytbhdehkdnenigaa
open Go.RowKit Go.Proofs.YtbhdehkdnenigaaW.PrintWords
theorem same19_true (k : List Vn) (s x : Int) (A B : Option Addr) (c d : Nat) (w : World) (hC : kVn.C w A k.length k) (hc : k.length ≤ c) (hD : kVn.C w B k.length k) (hd : k.length ≤ d) :
    Calls Try.prog 13 #[.agg #[.int .i64 s, .int .i64 x, .slice A k.length c], .agg #[.int .i64 s, .int .i64 x, .slice B k.length d]] w fun e w' => e = .returned (.bool true) ∧ Below w.heap.size w w' := by
  refine (same19_any k k s x s x A B c d w hC hD hc hd).mono ?_
  rintro e w' ⟨rfl, hb⟩
  exact ⟨by simp [sVns], hb⟩
end Go.Proofs.Ytbhdehkdnenigaa

set_option linter.unusedVariables false
set_option linter.unusedSimpArgs false
namespace Go.Proofs.Ytbhdehkdnenigaa.PD2
open Go.RowKit Go.Proofs.YtbhdehkdnenigaaW.PrintWords PDeltaLaid

def cofferref15_Right.f (k : Nat) (a0_0 : Int) (l0_1 : List (S48)) : Option (Bool) := if (l0_1.map of48).all fitsB = true then some (rightV (l0_1.map of48) a0_0) else none
theorem cofferref15_Right.calls (k : Nat) (a0_0 : Int) (A0_1 : Option Addr) (c0_1 : Nat) (l0_1 : List (S48)) (r : Bool) (w : World) (hr0_1 : Kd.C k48 w A0_1 l0_1.length l0_1) (hc0_1 : l0_1.length ≤ c0_1) (h : cofferref15_Right.f k a0_0 l0_1 = some r) :
    Calls Try.prog 12 #[.agg #[.int .i64 a0_0, .slice A0_1 l0_1.length c0_1]] w fun e w' => e = .returned (.bool r) ∧ Below w.heap.size w w' := by
  unfold cofferref15_Right.f at h
  split at h
  · next hf =>
    cases h
    have := refRight_any (l0_1.map of48) a0_0 A0_1 c0_1 w (by simpa using C_of48 hr0_1) (by simpa using hc0_1) (fun x hx => (fitsB_iff x).1 (List.all_eq_true.1 hf x hx))
    simpa using this
  · cases h
def cofferref15_SameVersion.f (k : Nat) (a0_0 : ByteArray) (a0_1 : Int) (a0_2 : Bool) (a0_3 : ByteArray) (l0_4 : List (S60)) (a1_0 : ByteArray) (a1_1 : Int) (a1_2 : Bool) (a1_3 : ByteArray) (l1_4 : List (S60)) : Option (Bool) := some (sVn (of48 ⟨a0_0, a0_1, a0_2, a0_3, l0_4⟩) (of48 ⟨a1_0, a1_1, a1_2, a1_3, l1_4⟩))
end Go.Proofs.Ytbhdehkdnenigaa.PD2

namespace Go.Proofs.Ytbhdehkdnenigaa.PD2
open PDeltaLaid Go.RowKit Go.Proofs.YtbhdehkdnenigaaW.PrintWords Go.Proofs.YtbhdehkdnenigaaW.PrintLast Go.Proofs.YtbhdehkdnenigaaW.PrintMore
attribute [local go_sem] max2_int min2_int max_two min_two max_three min_three max_four min_four   -- for this text's walks alone
set_option linter.unusedVariables false
set_option linter.unusedSimpArgs false

/-! ### cofferref19_Right: function 14 -/
mutual
def cofferref19_Right.j0 : Nat → Bool → Int → Int → List (S48) → Option (Bool)
  | 0, _, _, _, _ => none
  | k + 1, x20, x191000, x191001, x191002 => if x20 = true then (some false) else (cofferref19_Right.l0 k 0 x191000 x191001 x191002)
def cofferref19_Right.l0 : Nat → Int → Int → Int → List (S48) → Option (Bool)
  | 0, _, _, _, _ => none
  | k + 1, x3, x191000, x191001, x191002 => if x3 < (x191002.length : Int) then (if 0 ≤ x3 then (if ((rd_T48 x191002 x3).f1) < x191000 then (some false) else (cofferref19_Right.l0 k (wrap64 (x3 + 1)) x191000 x191001 x191002)) else (none)) else (some true)
end
/-! ### cofferlaw19_inside: function 22 -/
mutual
def cofferlaw19_inside.l0 : Nat → Int → Int → List (S48) → Int → List (S48) → Option (Bool)
  | 0, _, _, _, _, _ => none
  | k + 1, x5, x199000, x199001, x200000, x200001 => if x5 < (x199001.length : Int) then (cofferlaw19_inside.l1 k x5 false 0 x199000 x199001 x200000 x200001) else (some true)
def cofferlaw19_inside.l1 : Nat → Int → Bool → Int → Int → List (S48) → Int → List (S48) → Option (Bool)
  | 0, _, _, _, _, _, _, _ => none
  | k + 1, x5, x6, x7, x199000, x199001, x200000, x200001 => if x7 < (x200001.length : Int) then (if x6 = true then (cofferlaw19_inside.l1 k x5 true (wrap64 (x7 + 1)) x199000 x199001 x200000 x200001) else (if 0 ≤ x5 then (if x5 < (x199001.length : Int) then (if 0 ≤ x7 then ((cofferref15_SameVersion.f k ((rd_T48 x199001 x5).f0) ((rd_T48 x199001 x5).f1) ((rd_T48 x199001 x5).f2) ((rd_T48 x199001 x5).f3) ((rd_T48 x199001 x5).f4) ((rd_T48 x200001 x7).f0) ((rd_T48 x200001 x7).f1) ((rd_T48 x200001 x7).f2) ((rd_T48 x200001 x7).f3) ((rd_T48 x200001 x7).f4)).bind fun t202 => (cofferlaw19_inside.l1 k x5 t202 (wrap64 (x7 + 1)) x199000 x199001 x200000 x200001)) else (none)) else (none)) else (none))) else (if x6 = true then (cofferlaw19_inside.l0 k (wrap64 (x5 + 1)) x199000 x199001 x200000 x200001) else (some false))
end
end Go.Proofs.Ytbhdehkdnenigaa.PD2

set_option linter.unusedVariables false
set_option linter.unusedSimpArgs false
namespace Go.Proofs.Ytbhdehkdnenigaa
open Go.RowKit Go.Proofs.YtbhdehkdnenigaaW.PrintWords PDeltaLaid

end Go.Proofs.Ytbhdehkdnenigaa

set_option linter.unusedVariables false
set_option linter.unusedSimpArgs false
namespace Go.Proofs.Ytbhdehkdnenigaa
open Go.RowKit Go.Proofs.YtbhdehkdnenigaaW.PrintWords
attribute [local go_sem] Vn.val Vn.with

def lower (l : List Vn) (m : Int) : List Vn := l.filter fun x => decide (x.seq < m)
theorem lower_yes {l : List Vn} {m : Int} {k : Nat} (h : k < l.length) (hm : (rdV l k).seq < m) : lower (l.take (k + 1)) m = lower (l.take k) m ++ [rdV l k] := by
  rw [List.take_succ_eq_append_getElem h, rdV_at h]
  simp [lower, hm]
theorem lower_no {l : List Vn} {m : Int} {k : Nat} (h : k < l.length) (hm : ¬ (rdV l k).seq < m) : lower (l.take (k + 1)) m = lower (l.take k) m := by
  rw [List.take_succ_eq_append_getElem h, rdV_at h]
  simp [lower, hm]
theorem lower_len (l : List Vn) (m : Int) : (lower l m).length ≤ l.length := List.length_filter_le _ _
theorem lower_take_len (l : List Vn) (m : Int) (k : Nat) : (lower (l.take k) m).length ≤ k := Nat.le_trans (lower_len _ _) (by rw [List.length_take]; omega)
set_option maxRecDepth 100000 in
set_option maxHeartbeats 1000000 in
theorem below_any (l : List Vn) (nx m : Int) (A : Option Addr) (c : Nat) (w : World) (hC : kVn.C w A l.length l) (hl : l.length ≤ c) (HR : Room l) :
    Calls Try.prog 20 #[.agg #[.int .i64 nx, .slice A l.length c], .int .i64 m] w fun e w' => ∃ v, e = .returned (.agg #[.int .i64 m, v]) ∧ kVn.R 48 w' w.heap.size (fun _ => True) v (lower l m) ∧ Below w.heap.size w w' := by
  have HC := Lib.hid hC
  have hml := hC.2.1
  clear hC
  have hlen := HR.len
  go_enter Try.func20, Try.ntmps20
  go_wp2
  go_loopw [6] (fun i wr => ∃ (k : Nat) (A1 : Option Addr) (c1 : Nat), k ≤ l.length ∧ i = .int .i64 k ∧ wr.cell? ⟨w.heap.size + 1 + 1, 0, none⟩ = some (.int .i64 m) ∧ wr.cell? ⟨w.heap.size + 1 + 1, 1, none⟩ = some (.slice A1 (lower (l.take k) m).length c1) ∧ (∀ j, wr.frozen? ⟨w.heap.size + 1 + 1, j, none⟩ = false) ∧ w.heap.size + 3 ≤ wr.heap.size ∧ Hid (kVn.R 48 wr (w.heap.size + 3) (fun _ => True) (.slice A1 (lower (l.take k) m).length c1) (lower (l.take k) m)) ∧ Below (w.heap.size + 2) ((w.alloc (.cells #[.int .i64 nx, .slice A l.length c] 24)).alloc (.cells #[.int .i64 0, .slice none 0 0] 24)) wr) (fun i _ => l.length - (intOf i).toNat)
  case atStart => exact ⟨0, none, 0, Nat.zero_le _, rfl, by simp [go_sem], by simp [go_sem, lower], fun j => by simp [go_sem], by simp [go_sem], Kd.R_nil _ _ _ _ _, (Below.refl _ _).alloc (by simp [go_sem]) _⟩
  case round =>
    obtain ⟨k, A1, c1, hk, rfl, d0, d2, fd, hs3, HL, hbw⟩ := hrel
    have m1 := box2_a hbw (i := 1) rfl
    have HCw := Kd.C_below HC.out (box2_below hbw)
    have htl := lower_take_len l m k
    by_cases hlt : k < l.length
    · obtain ⟨ad, A4, c4, rfl, h1, h2, h3, h4, h5, h6, h7⟩ := kVn_rd HCw k hlt
      have hp32 := HR.pairs _ (rdV_mem hlt)
      by_cases hq : (rdV l k).seq < m
      · have hnext := lower_yes hlt hq
        generalize rdV l k = x at *
        have b3 : decide (x.seq < m) = true := decide_eq_true hq
        have HS := fun w' h => Lib.hid (own_any x A4 c4 w' (Kd.C_below h7 h) h6 (by omega))
        have HN := Lib.hid hnext
        clear HCw h7 hnext hq
        go_wp2
        go_region_law (first | (refine Kd.R_append_step kVn (w.heap.size + 3) (by simp [Region.wanted]) (.tmp 25) (.tmp 32) 22 48 _ 72 rfl Try.underlying22 vn_info rfl (by decide) (by decide) (.slice A1 (lower (l.take k) m).length c1) (lower (l.take k) m) x _ (fun _ => True) (fun k => wr.heap.size ≤ k) (by simp [Act.eval, Act.put]) (by simp [Act.eval, Act.put]) (elem_M HV.out hs3) (new_ne HL.out) (fun _ _ => trivial) (Kd.R_below HL.out hb3) (Below.refl _ _) (Nat.le_trans hs3 hb3.size) (by omega) ?_; intro v1 w1 hR hB hg hat; rw [← HN.out] at hR; obtain ⟨A5, c5, rfl⟩ := Kd.R_slice hR; have HL1 := Lib.hid hR; have f0 := cell_below hB (show w.heap.size + 1 + 1 < w.heap.size + 3 by omega) (pw_cell_below hb3 d0); have f2 := cell_below hB (show w.heap.size + 1 + 1 < w.heap.size + 3 by omega) (pw_cell_below hb3 d2); have ff : ∀ j, w1.frozen? ⟨w.heap.size + 1 + 1, j, none⟩ = false := fun j => frozen_below hB (show w.heap.size + 1 + 1 < w.heap.size + 3 by omega) (frozen_below hb3 (show w.heap.size + 1 + 1 < wr.heap.size by omega) (fd j)); clear hR hg hat) | (go_simp; go_at_call 29; refine (HS _ (below_drewN (Below.refl _ _) 1)).out.mono ?_; rintro e w' ⟨v, rfl, hv, hb2⟩; have HV := Lib.hid hv; clear hv; have hb3 : Below wr.heap.size wr w' := (below_drewN (Below.refl _ _) 1).trans hb2; have e2 := pw_cell_below hb3 d2; have e3 := fun o => pw_cell_below (below1 w' o) e2))
        all_goals go_wp2
        all_goals go_roundw
        all_goals first
          | (case measure => simp [intOf]; omega)
          | skip
        all_goals
          have hz : w.heap.size + 3 ≤ w1.heap.size := Nat.le_trans hs3 (Nat.le_trans hb3.size hB.size)
          refine ⟨k + 1, A5, c5, by omega, by go_num, by simp [go_sem, f0], by simp [go_sem, f2], fun j => by simp [go_sem, ff], by simpa [go_sem] using hz, ?_, ((hbw.trans (hb3.mono (by omega))).trans (hB.mono (by omega))).setCell (by simp) _⟩
          exact Kd.R_mono (Kd.R_far (p := ⟨w.heap.size + 1 + 1, 1, none⟩) (ok := fun k => w.heap.size + 3 ≤ k) (Kd.R_mono (Kd.R_bound HL1.out) (fun k hk => hk.2.1)) (by intro k hk; show k ≠ w.heap.size + 1 + 1; omega) _) (fun _ _ => trivial)
      · have hnext := lower_no hlt hq
        generalize rdV l k = x at *
        have b3 : decide (x.seq < m) = false := decide_eq_false hq
        have HN := Lib.hid hnext
        clear HCw h7 hnext hq
        go_wp2
        go_roundw
        case rel => exact ⟨k + 1, A1, c1, by omega, by go_num, d0, by rw [HN.out]; exact d2, fd, hs3, by rw [HN.out]; exact HL, hbw⟩
        case measure => simp [intOf]; omega
    · obtain rfl : k = l.length := by omega
      have hL := HL.out
      rw [List.take_length] at hL d2
      have HL2 := Lib.hid hL
      have b0 := box2_b hbw (i := 0) rfl
      have b1 := box2_b hbw (i := 1) rfl
      have fb := box2_fb hbw
      clear HCw hL HL
      go_wp2
      have hR2 : kVn.R 48 wr (w.heap.size + 3) (fun k => w.heap.size + 3 ≤ k) (.slice A1 (lower l m).length c1) (lower l m) := Kd.R_mono (Kd.R_bound HL2.out) (fun k hk => hk.2.1)
      refine bodyPost_ret (v := .agg #[.int .i64 m, .slice A1 (lower l m).length c1]) (by simp [results, Try.results20, go_sem, b0, b1]) rfl ?_
      refine ⟨_, rfl, ?_, ?_⟩
      · refine Kd.R_lower (Kd.R_mono (Kd.R_far (Kd.R_far hR2 ?_ _) ?_ _) (fun _ _ => trivial)) (by omega)
        all_goals (intro k hk; show k ≠ _; simp only; omega)
      · exact (((box2_below hbw).setCell (by simp) _).setCell (by simp) _)
def numE (n most : Int) : Int := wrap64 (1 + wrap64 ((IntKind.u64.wrap n).tmod most))
theorem numE_in (n most : Int) (h1 : 1 ≤ most) (h2 : most ≤ 1099511627777) : 1 ≤ numE n most ∧ numE n most ≤ most := by
  have h0 : 0 ≤ IntKind.u64.wrap n := by
    simp only [IntKind.wrap, IntKind.bits, IntKind.signed]
    exact Int.emod_nonneg _ (by decide)
  have ha := Int.tmod_nonneg most h0
  have hb : (IntKind.u64.wrap n).tmod most < most := Int.tmod_lt_of_pos _ (by omega)
  unfold numE
  generalize (IntKind.u64.wrap n).tmod most = z at *
  unfold wrap64
  omega
theorem number_any (n most : Int) (w : World) (h1 : 1 ≤ most) (h2 : most ≤ 1099511627777) :
    Calls Try.prog 19 #[.int .i64 n, .int .i64 most] w fun e w' => e = .returned (.int .i64 (numE n most)) ∧ w = w' := by
  go_enter Try.func19, Try.ntmps19
  go_wp2
  go_ret
  exact ⟨rfl, rfl⟩
end Go.Proofs.Ytbhdehkdnenigaa

set_option linter.unusedVariables false
set_option linter.unusedSimpArgs false
namespace Go.Proofs.Ytbhdehkdnenigaa
open Go.RowKit Go.Proofs.YtbhdehkdnenigaaW.PrintWords

theorem va_iff (x y : Vn) : va x y = true ↔ Op.bytesLess x.key.toList y.key.toList = true ∨ (x.key.toList = y.key.toList ∧ x.seq < y.seq) := by
  simp [va]
theorem va_trans {x y z : Vn} (h1 : va x y = true) (h2 : va y z = true) : va x z = true := by
  rw [va_iff] at *
  rcases h1 with h1 | ⟨e1, h1⟩ <;> rcases h2 with h2 | ⟨e2, h2⟩
  · exact .inl (bl_trans h1 h2)
  · exact .inl (by rw [← e2]; exact h1)
  · exact .inl (by rw [e1]; exact h2)
  · exact .inr ⟨e1.trans e2, by omega⟩
theorem va_asym {x y : Vn} (h1 : va x y = true) : va y x = false := by
  rw [Bool.eq_false_iff]
  intro h2
  rw [va_iff] at *
  rcases h1 with h1 | ⟨e1, h1⟩ <;> rcases h2 with h2 | ⟨e2, h2⟩
  · rw [bl_asym h1] at h2; cases h2
  · rw [e2, bl_irr] at h1; cases h1
  · rw [e1, bl_irr] at h2; cases h2
  · omega
theorem ord_va (x y : Vn) : ordE x y < 0 ↔ va x y = true := by
  rw [va_iff]
  unfold ordE cmpS cmpI
  rcases bl_tri x.key.toList y.key.toList with h | h | h
  · simp [h]
  · simp only [h, bl_irr, Bool.false_eq_true, if_false, false_or, true_and]
    by_cases h1 : x.seq < y.seq
    · simp [h1]
    · by_cases h2 : y.seq < x.seq
      · simp [h1, h2]
      · simp [h1, h2]
  · have h1 := bl_asym h
    have hne : x.key.toList ≠ y.key.toList := fun e => by rw [e, bl_irr] at h; cases h
    simp [h, h1, hne]
def Srt (l : List Vn) : Prop := l.Pairwise (fun x y => va x y = true ∧ x.seq ≠ y.seq)
structure Rt (l : List Vn) (nx : Int) : Prop where
  lo : 1 ≤ nx
  hi : nx ≤ 1099511627777
  len : l.length ≤ 256
  all : ∀ x ∈ l, wel x = true ∧ 1 ≤ x.seq ∧ x.seq < nx
  srt : Srt l
  bytes : bsize l ≤ 65536
theorem sum_le {l : List Nat} {b : Nat} (h : ∀ x ∈ l, x ≤ b) : l.sum ≤ l.length * b := by
  induction l with
  | nil => simp
  | cons x r ih =>
    have h1 := h x List.mem_cons_self
    have h2 := ih (fun y hy => h y (List.mem_cons_of_mem _ hy))
    rw [List.sum_cons, List.length_cons, Nat.add_mul]
    omega
theorem mok_all {l : List Pr} (h : mok l = true) : l.length ≤ 8 ∧ ∀ p ∈ l, p.n.size ≤ 16 ∧ p.v.size ≤ 64 := by
  simp only [mok, Bool.and_eq_true, decide_eq_true_eq, List.all_eq_true, List.mem_range] at h
  refine ⟨h.1, fun p hp => ?_⟩
  obtain ⟨i, hi, e⟩ := List.getElem_of_mem hp
  have := h.2 i hi
  rw [rdP_at hi] at e
  simp only [mg, e, sml, Bool.and_eq_true, decide_eq_true_eq] at this
  omega
theorem wel_size {x : Vn} (h : wel x = true) : vsize x ≤ 1728 := by
  simp only [wel, Bool.and_eq_true, beq_iff_eq] at h
  obtain ⟨⟨⟨h1, h2⟩, h3⟩, _⟩ := h
  have k1 : x.key.size ≤ 32 := by unfold keyE at h1; split at h1 <;> omega
  have k2 : x.data.size ≤ 1024 := by unfold dataE at h2; split at h2 <;> omega
  have k3 : mok x.pairs = true := by unfold metaE at h3; split at h3 <;> first | assumption | omega
  obtain ⟨k4, k5⟩ := mok_all k3
  have k6 : psizes x.pairs ≤ x.pairs.length * 80 := by
    unfold psizes
    have := sum_le (l := x.pairs.map psize) (b := 80) (fun y hy => by
      obtain ⟨p, hp, rfl⟩ := List.mem_map.1 hy
      have := k5 p hp
      unfold psize
      omega)
    rwa [List.length_map] at this
  unfold vsize
  have : x.pairs.length * 80 ≤ 640 := by omega
  omega
theorem bsize_small {l : List Vn} (h : ∀ x ∈ l, wel x = true) (hl : l.length ≤ 256) : bsize l ≤ 442368 := by
  have := sum_le (l := l.map vsize) (b := 1728) (fun y hy => by
    obtain ⟨x, hx, rfl⟩ := List.mem_map.1 hy
    exact wel_size (h x hx))
  rw [List.length_map] at this
  unfold bsize
  omega
theorem gd_iff (l : List Vn) (nx : Int) (i : Nat) : gd l nx i = true ↔ wel (rdV l i) = true ∧ 1 ≤ (rdV l i).seq ∧ (rdV l i).seq < nx ∧ (i = 0 ∨ va (rdV l (i - 1)) (rdV l i) = true) ∧ ∀ j, j < i → (rdV l j).seq ≠ (rdV l i).seq := by
  simp only [gd, apartTo, Bool.and_eq_true, Bool.or_eq_true, decide_eq_true_eq, beq_iff_eq, bne_iff_ne, List.all_eq_true, List.mem_range, and_assoc]
theorem right_iff (l : List Vn) (nx : Int) : rightV l nx = true ↔ Rt l nx := by
  have hgds : gds l nx = true ↔ ∀ i, i < l.length → gd l nx i = true := by
    simp only [gds, List.all_eq_true, List.mem_range]
  constructor
  · intro h
    simp only [rightV, Bool.and_eq_true, decide_eq_true_eq] at h
    obtain ⟨⟨⟨⟨h1, h2⟩, h3⟩, h4⟩, h5⟩ := h
    have hg := fun i hi => (gd_iff l nx i).1 (hgds.1 h4 i hi)
    have hall : ∀ x ∈ l, wel x = true ∧ 1 ≤ x.seq ∧ x.seq < nx := fun x hx => by
      obtain ⟨i, hi, e⟩ := List.getElem_of_mem hx
      rw [rdV_at hi] at e
      have := hg i hi
      rw [e] at this
      exact ⟨this.1, this.2.1, this.2.2.1⟩
    have hb := bsize_small (fun x hx => (hall x hx).1) h3
    rw [w64_nat (by omega)] at h5
    have hva : ∀ d i, i + d + 1 < l.length → va (rdV l i) (rdV l (i + d + 1)) = true := by
      intro d
      induction d with
      | zero =>
        intro i hi
        have := (hg (i + 1) (by omega)).2.2.2.1
        simpa using this
      | succ d ih =>
        intro i hi
        have h1 := ih i (by omega)
        have h2 := (hg (i + d + 1 + 1) (by omega)).2.2.2.1
        have h2' : va (rdV l (i + d + 1)) (rdV l (i + d + 1 + 1)) = true := by simpa using h2
        exact va_trans h1 h2'
    refine ⟨h1, h2, h3, hall, ?_, by omega⟩
    unfold Srt
    rw [List.pairwise_iff_getElem]
    intro i j hi hj hij
    rw [rdV_at hi, rdV_at hj]
    obtain ⟨d, rfl⟩ : ∃ d, j = i + d + 1 := ⟨j - i - 1, by omega⟩
    exact ⟨hva d i hj, (hg _ hj).2.2.2.2 i (by omega)⟩
  · intro h
    have hs := h.srt
    unfold Srt at hs
    rw [List.pairwise_iff_getElem] at hs
    have hg : gds l nx = true := hgds.2 (fun i hi => by
      rw [gd_iff]
      have hm := h.all _ (rdV_mem hi)
      refine ⟨hm.1, hm.2.1, hm.2.2, ?_, fun j hj => ?_⟩
      · by_cases h0 : i = 0
        · exact .inl h0
        · have := (hs (i - 1) i (by omega) hi (by omega)).1
          rw [rdV_at, rdV_at] at this
          exact .inr this
      · have := (hs j i (by omega) hi hj).2
        rwa [rdV_at, rdV_at] at this)
    have hb := h.bytes
    simp only [rightV, hg, w64_nat (show bsize l ≤ 9223372036854775807 by omega), Bool.and_eq_true, decide_eq_true_eq]
    exact ⟨⟨⟨⟨h.lo, h.hi⟩, h.len⟩, trivial⟩, by omega⟩
theorem bsize_filter (l : List Vn) (p : Vn → Bool) : bsize (l.filter p) ≤ bsize l := by
  induction l with
  | nil => simp
  | cons x r ih =>
    unfold bsize at *
    rw [List.filter_cons]
    split <;> simp only [List.map_cons, List.sum_cons] <;> omega
theorem bsize_part (l : List Vn) (p : Vn → Bool) : bsize (l.filter p) + bsize (l.filter (fun x => !p x)) = bsize l := by
  induction l with
  | nil => simp [bsize]
  | cons x r ih =>
    unfold bsize at *
    rw [List.filter_cons, List.filter_cons]
    cases p x <;> simp only [Bool.not_true, Bool.not_false, if_true, if_false, Bool.false_eq_true, List.map_cons, List.sum_cons] <;> omega
theorem len_part (l : List Vn) (p : Vn → Bool) : (l.filter p).length + (l.filter (fun x => !p x)).length = l.length := by
  induction l with
  | nil => simp
  | cons x r ih =>
    rw [List.filter_cons, List.filter_cons]
    cases p x <;> simp only [Bool.not_true, Bool.not_false, if_true, if_false, Bool.false_eq_true, List.length_cons] <;> omega
theorem Rt.filter {l : List Vn} {nx nx' : Int} (h : Rt l nx) (p : Vn → Bool) (h1 : 1 ≤ nx') (h2 : nx' ≤ 1099511627777) (hp : ∀ x ∈ l, p x = true → x.seq < nx') : Rt (l.filter p) nx' :=
  ⟨h1, h2, Nat.le_trans (List.length_filter_le _ _) h.len, fun x hx => by
    obtain ⟨hx, hpx⟩ := List.mem_filter.1 hx
    have := h.all x hx
    exact ⟨this.1, this.2.1, hp x hx hpx⟩, h.srt.filter p, Nat.le_trans (bsize_filter l p) h.bytes⟩
theorem mrg_l {x : Vn} {l m : List Vn} (h : ∀ y ∈ m, va y x = false) : mrg (x :: l) m = x :: mrg l m := by
  cases m with
  | nil => rw [mrg_end (.inr rfl), mrg_end (.inr rfl)]; simp
  | cons y m =>
    rw [mrg, if_neg (by rw [ord_va, h y List.mem_cons_self]; simp)]
theorem mrg_r {y : Vn} {l m : List Vn} (h : ∀ x ∈ l, va y x = true) : mrg l (y :: m) = y :: mrg l m := by
  cases l with
  | nil => rw [mrg_end (.inl rfl), mrg_end (.inl rfl)]; simp
  | cons x l => rw [mrg, if_pos (by rw [ord_va]; exact h x List.mem_cons_self)]
theorem mrg_part {l : List Vn} (h : Srt l) (p : Vn → Bool) : mrg (l.filter p) (l.filter (fun x => !p x)) = l := by
  induction l with
  | nil => simp [mrg]
  | cons x r ih =>
    unfold Srt at h ih
    rw [List.pairwise_cons] at h
    obtain ⟨h1, h2⟩ := h
    rw [List.filter_cons, List.filter_cons]
    cases hp : p x with
    | true =>
      simp only [Bool.not_true, if_true, if_false, Bool.false_eq_true]
      rw [mrg_l (fun y hy => va_asym (h1 y (List.mem_filter.1 hy).1).1), ih h2]
    | false =>
      simp only [Bool.not_false, if_true, if_false, Bool.false_eq_true]
      rw [mrg_r (fun y hy => (h1 y (List.mem_filter.1 hy).1).1), ih h2]
theorem since_all {l : List Vn} (h : ∀ x ∈ l, 1 ≤ x.seq) : since l (-9223372036854775808) = l := by
  unfold since
  rw [List.filter_eq_self]
  intro x hx
  have := h x hx
  exact decide_eq_true (by omega)
theorem since_not (l : List Vn) (m : Int) : since l m = l.filter (fun x => !decide (x.seq < m)) := by
  unfold since
  congr 1
  funext x
  by_cases h : x.seq < m
  · rw [decide_eq_true h, decide_eq_false (by omega)]; rfl
  · rw [decide_eq_false h, decide_eq_true (by omega)]; rfl
theorem mrg_since {l : List Vn} {nx : Int} (h : Rt l nx) (m : Int) : mrg (lower l m) (since l m) = l := by
  rw [since_not]
  exact mrg_part h.srt _
theorem Rt.lower {l : List Vn} {nx m : Int} (h : Rt l nx) (h1 : 1 ≤ m) (h2 : m ≤ nx) : Rt (lower l m) m :=
  h.filter _ h1 (by have := h.hi; omega) (fun x _ hp => of_decide_eq_true hp)
theorem Rt.since {l : List Vn} {nx m : Int} (h : Rt l nx) : Rt (since l m) nx :=
  h.filter _ h.lo h.hi (fun x hx _ => (h.all x hx).2.2)
theorem bytes_since {l : List Vn} {nx : Int} (h : Rt l nx) (m : Int) : (lower l m).length + (since l m).length ≤ 256 ∧ wrap64 (wrap64 (bsize (lower l m)) + wrap64 (bsize (since l m))) ≤ 65536 := by
  have h1 := bsize_part l (fun x => decide (x.seq < m))
  have h2 := len_part l (fun x => decide (x.seq < m))
  rw [← since_not] at h1 h2
  have h3 := h.bytes
  have h4 := h.len
  change bsize (lower l m) + bsize (since l m) = bsize l at h1
  change (lower l m).length + (since l m).length = l.length at h2
  refine ⟨by omega, ?_⟩
  rw [w64_nat (by omega), w64_nat (by omega), show ((bsize (lower l m) : Nat) : Int) + ((bsize (since l m) : Nat) : Int) = ((bsize (lower l m) + bsize (since l m) : Nat) : Int) by omega, w64_nat (by omega)]
  omega
end Go.Proofs.Ytbhdehkdnenigaa

set_option linter.unusedVariables false
set_option linter.unusedSimpArgs false
namespace Go.Proofs.Ytbhdehkdnenigaa
open Go.RowKit Go.Proofs.YtbhdehkdnenigaaW.PrintWords

structure Dt (k : List Vn) (nx s : Int) : Prop where
  rt : Rt k nx
  s1 : 1 ≤ s
  s2 : s ≤ nx
  late : ∀ x ∈ k, s ≤ x.seq
end Go.Proofs.Ytbhdehkdnenigaa

set_option linter.unusedVariables false
set_option linter.unusedSimpArgs false
namespace Go.Proofs.Ytbhdehkdnenigaa
open Go.RowKit Go.Proofs.YtbhdehkdnenigaaW.PrintWords
/-- pairs cut off -/
theorem Aq.cut {w wr : World} {lo hi g n cap : Nat} {xs : List Vn} (h : Aq w wr lo hi (.slice (some ⟨g, 0, none⟩) n cap) xs) (i : Nat) (hi' : i < n) {A4 : Option Addr} {n4 c4 : Nat} (e4' : wr.cell? ⟨g, i * 5 + 4, none⟩ = some (.slice A4 n4 c4)) :
    Aq w (wr.setCell ⟨g, i * 5 + 4, none⟩ (.slice A4 0 c4)) lo hi (.slice (some ⟨g, 0, none⟩) n cap) (xs.set i (putP (xs.getD i zV) [])) := by
  have hg : inR lo hi g := h.s.elim fun f hf => hf.1 g (by simp [Value.ownBlock])
  obtain ⟨oki, c, hcl, hM, hcc, hfr, hoki, hH⟩ := Kd.S_elem h.s zV (i : Int) (by omega) (by omega)
  rw [Int.toNat_natCast] at hM hcc hfr
  generalize xs.getD i zV = x at *
  obtain ⟨v4, rfl, g4⟩ := kVn_openM hM
  have e4 := hcc 4 _ rfl
  obtain rfl : v4 = .slice A4 n4 c4 := Option.some.inj (e4.symm.trans e4')
  have hHn := Kd.H_mono hH (ok' := fun k => inR lo hi k ∧ ¬ (fun _ : Nat => False) k) (fun k hk => ⟨hk, fun h => h.elim⟩)
  have h0 := Kd.R_take (m := 0) g4 (Nat.zero_le _)
  have hM3 := kVn_mkM wr lo oki (putP x []) (v := .slice A4 0 c4) h0
  have hs := (Kd.S_seg (okg := fun _ => False) hHn (by omega) (by omega) (seg := [.slice A4 0 c4]) (j := 4) (show 4 + 1 ≤ 5 by decide) hM3 (fun k hk => .inl hk) (fun _ h => h.elim)).1
  rw [Int.toNat_natCast] at hs
  exact ⟨hs, h.wi.trans (Wi.set _ hg _)⟩
def bareV (x : Vn) : Vn := ⟨x.key, x.seq, x.gone, ⟨#[]⟩, []⟩
def bareL (l : List Vn) : List Vn := l.map bareV
def LstB (l : List Vn) (i : Nat) : List Vn := (bareL l).take i ++ l.drop i
theorem bareL_len (l : List Vn) : (bareL l).length = l.length := by simp [bareL]
theorem lstb_len (l : List Vn) (i : Nat) (h : i ≤ l.length) : (LstB l i).length = l.length := by simp [LstB, bareL]; omega
theorem lstb_0 (l : List Vn) : LstB l 0 = l := by simp [LstB]
theorem lstb_all (l : List Vn) : LstB l l.length = bareL l := by
  unfold LstB
  rw [List.take_of_length_le (by rw [bareL_len]; exact Nat.le_refl _), List.drop_length, List.append_nil]
theorem lstb_at (l : List Vn) (i : Nat) (h : i < l.length) : (LstB l i).getD i zV = l[i] := by
  have hl : ((bareL l).take i).length = i := by simp [bareL]; omega
  unfold LstB
  rw [List.getD_eq_getElem?_getD, List.getElem?_append_right (by omega), hl, Nat.sub_self]
  simp [h]
theorem lstb_next (l : List Vn) (i : Nat) (h : i < l.length) : (LstB l i).set i (bareV l[i]) = LstB l (i + 1) := by
  have hl : ((bareL l).take i).length = i := by simp [bareL]; omega
  unfold LstB
  rw [List.set_append_right _ _ (by omega), hl, Nat.sub_self, List.drop_eq_getElem_cons h, List.set_cons_zero, List.take_succ_eq_append_getElem (by rw [bareL_len]; exact h), List.append_assoc]
  simp [bareL]
/-- one version laid bare -/
theorem Aq.bare {w wr : World} {lo hi g n cap i : Nat} {l : List Vn} (h : Aq w wr lo hi (.slice (some ⟨g, 0, none⟩) n cap) (LstB l i)) (hi' : i < n) (hl : i < l.length) {A4 : Option Addr} {n4 c4 : Nat} (e4 : wr.cell? ⟨g, i * 5 + 4, none⟩ = some (.slice A4 n4 c4)) :
    Aq w ((wr.setCell ⟨g, i * 5 + 3, none⟩ (.string ⟨#[]⟩)).setCell ⟨g, i * 5 + 4, none⟩ (.slice A4 0 c4)) lo hi (.slice (some ⟨g, 0, none⟩) n cap) (LstB l (i + 1)) := by
  obtain ⟨v4, _, _, _, e4', _, _, hput⟩ := h.cells i hi'
  rw [lstb_at l i hl] at hput
  have h1 := hput ⟨l[i].key, l[i].seq, l[i].gone, ⟨#[]⟩, l[i].pairs⟩ 3 (.string ⟨#[]⟩) rfl (.inr (.inr ⟨rfl, rfl, rfl⟩))
  have e5 : (wr.setCell ⟨g, i * 5 + 3, none⟩ (.string ⟨#[]⟩)).cell? ⟨g, i * 5 + 4, none⟩ = some (.slice A4 n4 c4) := by
    simpa [go_sem] using e4
  have h2 := h1.cut i hi' e5
  rw [setD _ i _ (by rw [lstb_len l i (Nat.le_of_lt hl)]; exact hl), List.set_set] at h2
  rw [← lstb_next l i hl]
  exact h2
theorem bare_room {l : List Vn} (h : Room l) : Room (bareL l) :=
  ⟨by rw [bareL_len]; exact h.len, fun x hx => by
    obtain ⟨y, hy, rfl⟩ := List.mem_map.1 hx
    simp [bareV], fun x hx => by
    obtain ⟨y, hy, rfl⟩ := List.mem_map.1 hx
    have := h.fits y hy
    exact ⟨this.key, show (⟨#[]⟩ : ByteArray).size ≤ _ from Nat.zero_le _, by simp [bareV]⟩⟩
theorem rt_pairs {l : List Vn} {nx : Int} (h : Rt l nx) : l.length ≤ 256 ∧ ∀ x ∈ l, x.pairs.length ≤ 8 := ⟨h.len, fun x hx => by
  have h1 := (h.all x hx).1
  unfold wel at h1
  simp only [Bool.and_eq_true, beq_iff_eq] at h1
  have h2 := h1.1.2
  have k3 : mok x.pairs = true := by unfold metaE at h2; split at h2 <;> first | assumption | omega
  exact (mok_all k3).1⟩
/-- a box: a value's, a delta's -/
def bxB (w : World) (b : Nat) (nx : Int) (A : Option Addr) (n c : Nat) : Prop := w.heap[b]? = some (.cells #[.int .i64 nx, .slice A n c] 24 (0, 0))
def bxD (w : World) (b : Nat) (s nx : Int) (A : Option Addr) (n c : Nat) : Prop := w.heap[b]? = some (.cells #[.int .i64 s, .int .i64 nx, .slice A n c] 27 (0, 0))
theorem bxB.cells {w : World} {b n c : Nat} {nx : Int} {A : Option Addr} (h : bxB w b nx A n c) : w.cell? ⟨b, 0, none⟩ = some (.int .i64 nx) ∧ w.cell? ⟨b, 1, none⟩ = some (.slice A n c) := ⟨blk_cell h 0, blk_cell h 1⟩
theorem bxD.cells {w : World} {b n c : Nat} {s nx : Int} {A : Option Addr} (h : bxD w b s nx A n c) : w.cell? ⟨b, 0, none⟩ = some (.int .i64 s) ∧ w.cell? ⟨b, 1, none⟩ = some (.int .i64 nx) ∧ w.cell? ⟨b, 2, none⟩ = some (.slice A n c) := ⟨blk_cell h 0, blk_cell h 1, blk_cell h 2⟩
structure Nums where
  (nx m : Int)
  (l : List Vn)
  (A Ao Al Aw Aa Ab At Ac Ad : Option Addr)
  (c co cl cw ca cb ct cc cd : Nat)
  (v o1 o2 bo l1 l2 bl w1 w2 bw a1 a2 ba b1 b2 bb t1 t2 bt c1 c2 bc d1 d2 bd top : Nat)
structure Nums.Ok (N : Nums) : Prop where
  k1 : N.v < N.o1
  k2 : N.o1 ≤ N.o2
  k3 : N.o2 ≤ N.bo
  k4 : N.bo < N.l1
  k5 : N.l1 ≤ N.l2
  k6 : N.l2 ≤ N.bl
  k7 : N.bl < N.w1
  k8 : N.w1 ≤ N.w2
  k9 : N.w2 ≤ N.bw
  k10 : N.bw < N.a1
  k11 : N.a1 ≤ N.a2
  k12 : N.a2 ≤ N.ba
  k13 : N.ba < N.b1
  k14 : N.b1 ≤ N.b2
  k15 : N.b2 ≤ N.bb
  k16 : N.bb < N.t1
  k17 : N.t1 ≤ N.t2
  k18 : N.t2 ≤ N.bt
  k19 : N.bt < N.c1
  k20 : N.c1 ≤ N.c2
  k21 : N.c2 ≤ N.bc
  k22 : N.bc < N.d1
  k23 : N.d1 ≤ N.d2
  k24 : N.d2 ≤ N.bd
  k25 : N.bd < N.top
/-- what the law holds and never writes -/
structure Sit (N : Nums) (w wr : World) : Prop where
  bv : bxB wr N.v N.nx N.A N.l.length N.c
  bo : bxB wr N.bo N.nx N.Ao N.l.length N.co
  bl : bxB wr N.bl N.m N.Al (lower N.l N.m).length N.cl
  bw : bxB wr N.bw N.m N.Aw (lower N.l N.m).length N.cw
  ba : bxD wr N.ba N.m N.nx N.Aa (since N.l N.m).length N.ca
  bb : bxD wr N.bb N.m N.nx N.Ab (since N.l N.m).length N.cb
  bt : bxB wr N.bt N.nx N.At (since N.l N.m).length N.ct
  bc : bxB wr N.bc N.nx N.Ac N.l.length N.cc
  bd : bxB wr N.bd N.nx N.Ad N.l.length N.cd
  low : Owned wr N.l1 (inR N.l1 N.l2) N.Al N.cl (lower N.l N.m)
  was : kVn.R 48 wr N.w1 (inR N.w1 N.w2) (.slice N.Aw (lower N.l N.m).length N.cw) (lower N.l N.m)
  want : kVn.R 48 wr N.t1 (inR N.t1 N.t2) (.slice N.At (since N.l N.m).length N.ct) (since N.l N.m)
  d : kVn.R 48 wr N.d1 (inR N.d1 N.d2) (.slice N.Ad N.l.length N.cd) N.l
  vC : kVn.C wr N.A N.l.length N.l
  vb : Below w.heap.size w wr
  v0 : kVn.C w N.A N.l.length N.l
  top : N.top ≤ wr.heap.size
  low0 : w.heap.size ≤ N.v
theorem Sit.move {N : Nums} {w wr w1 : World} {lo hi : Nat} (h : Sit N w wr) (K : N.Ok) (hm : Wi lo hi wr w1) (hr : (lo = N.a1 ∧ hi = N.a2) ∨ (lo = N.c1 ∧ hi = N.c2) ∨ (lo = N.o1 ∧ hi = N.o2) ∨ (lo = N.b1 ∧ hi = N.b2)) : Sit N w w1 := by
  obtain ⟨k1, k2, k3, k4, k5, k6, k7, k8, k9, k10, k11, k12, k13, k14, k15, k16, k17, k18, k19, k20, k21, k22, k23, k24, k25⟩ := K
  have ht := h.top
  have hs := hm.below.size
  have h0 := h.low0
  have hbl : ∀ k, (k < lo ∨ hi ≤ k) → k < wr.heap.size → w1.heap[k]? = wr.heap[k]? := fun k => hm.block
  have hlo : w.heap.size ≤ lo := by omega
  have hb := h.vb.trans (hm.below.mono hlo)
  exact ⟨(hbl _ (by omega) (by omega)).trans h.bv, (hbl _ (by omega) (by omega)).trans h.bo, (hbl _ (by omega) (by omega)).trans h.bl, (hbl _ (by omega) (by omega)).trans h.bw, (hbl _ (by omega) (by omega)).trans h.ba, (hbl _ (by omega) (by omega)).trans h.bb, (hbl _ (by omega) (by omega)).trans h.bt, (hbl _ (by omega) (by omega)).trans h.bc, (hbl _ (by omega) (by omega)).trans h.bd,
    hm.owned h.low (fun k hk => by unfold inR at hk; omega), hm.R h.was (fun k hk => by unfold inR at hk; omega), hm.R h.want (fun k hk => by unfold inR at hk; omega), hm.R h.d (fun k hk => by unfold inR at hk; omega), Kd.C_below h.v0 hb, hb, h.v0, by omega, h0⟩
theorem Sit.below {N : Nums} {w wr w1 : World} (h : Sit N w wr) (K : N.Ok) (hb : Below wr.heap.size wr w1) : Sit N w w1 := by
  refine h.move K (Wi.of_below (lo := N.o1) (hi := N.o2) hb ?_) (.inr (.inr (.inl ⟨rfl, rfl⟩)))
  have := h.top
  obtain ⟨k1, k2, k3, k4, k5, k6, k7, k8, k9, k10, k11, k12, k13, k14, k15, k16, k17, k18, k19, k20, k21, k22, k23, k24, k25⟩ := K
  omega
end Go.Proofs.Ytbhdehkdnenigaa

set_option linter.unusedVariables false
set_option linter.unusedSimpArgs false
namespace Go.Proofs.Ytbhdehkdnenigaa
open Go.RowKit Go.Proofs.YtbhdehkdnenigaaW.PrintWords
theorem room_sub {l k : List Vn} (h : Room l) (h1 : k.length ≤ l.length) (h2 : ∀ x ∈ k, x ∈ l) : Room k := ⟨by have := h.len; omega, fun x hx => h.pairs x (h2 x hx), fun x hx => h.fits x (h2 x hx)⟩
theorem room_lower {l : List Vn} (h : Room l) (m : Int) : Room (lower l m) := room_sub h (List.length_filter_le _ _) (fun x hx => (List.mem_filter.1 hx).1)
theorem room_since {l : List Vn} (h : Room l) (m : Int) : Room (since l m) := room_sub h (List.length_filter_le _ _) (fun x hx => (List.mem_filter.1 hx).1)
theorem full_w (l : List Vn) (nx nx' : Int) (A : Option Addr) (c : Nat) (w : World) (hC : kVn.C w A l.length l) (hl : l.length ≤ c) (hR : Rt l nx') :
    Calls Try.prog 23 #[.agg #[.int .i64 nx, .slice A l.length c]] w fun e w' => ∃ A' c', e = .returned (.agg #[.int .i64 nx, .slice A' l.length c']) ∧ Owned w' w.heap.size (inR w.heap.size w'.heap.size) A' c' l ∧ Below w.heap.size w w' := by
  obtain ⟨h1, h2⟩ := rt_pairs hR
  refine (full_any l nx A c w hC hl (by omega) (fun x hx => by have := h2 x hx; omega)).mono ?_
  rintro e w' ⟨A', c', rfl, ho, hb⟩
  refine ⟨A', c', rfl, ?_, hb⟩
  unfold Owned at ho ⊢
  exact Kd.S_mono (Kd.S_bound ho) (fun k hk => ⟨hk.1, hk.2.2.1⟩)
theorem below_w (l : List Vn) (nx m : Int) (A : Option Addr) (c : Nat) (w : World) (hC : kVn.C w A l.length l) (hl : l.length ≤ c) (HR : Room l) :
    Calls Try.prog 20 #[.agg #[.int .i64 nx, .slice A l.length c], .int .i64 m] w fun e w' => ∃ A' c', e = .returned (.agg #[.int .i64 m, .slice A' (lower l m).length c']) ∧ kVn.R 48 w' w.heap.size (inR w.heap.size w'.heap.size) (.slice A' (lower l m).length c') (lower l m) ∧ Below w.heap.size w w' := by
  refine (below_any l nx m A c w hC hl HR).mono ?_
  rintro e w' ⟨v, rfl, ho, hb⟩
  obtain ⟨A', c', rfl⟩ := Kd.R_slice ho
  exact ⟨A', c', rfl, Kd.R_mono (Kd.R_bound ho) (fun k hk => ⟨hk.2.1, hk.2.2.1⟩), hb⟩
theorem since_w (l : List Vn) (nx m : Int) (A : Option Addr) (c : Nat) (w : World) (hC : kVn.C w A l.length l) (hl : l.length ≤ c) (HR : Room l) (h1 : 1 ≤ m) (h2 : m ≤ nx) :
    Calls Try.prog 9 #[.agg #[.int .i64 nx, .slice A l.length c], .int .i64 m] w fun e w' => ∃ A' c', e = .returned (.tuple #[.agg #[.int .i64 m, .int .i64 nx, .slice A' (since l m).length c'], .int .i64 0]) ∧ Kd.S kVn 48 w' w.heap.size (inR w.heap.size w'.heap.size) (.slice A' (since l m).length c') (since l m) ∧ Below w.heap.size w w' := by
  refine (since_S l nx m A c w hC hl HR h1 h2).mono ?_
  rintro e w' ⟨v, rfl, ho, hb⟩
  obtain ⟨A', c', rfl⟩ := Kd.S_slice ho
  exact ⟨A', c', rfl, Kd.S_mono (Kd.S_bound ho) (fun k hk => ⟨hk.1, hk.2.2.1⟩), hb⟩
theorem since19_w (l : List Vn) (nx m : Int) (A : Option Addr) (c : Nat) (w : World) (hC : kVn.C w A l.length l) (hl : l.length ≤ c) (HR : Room l) (h1 : 1 ≤ m) (h2 : m ≤ nx) :
    Calls Try.prog 11 #[.agg #[.int .i64 nx, .slice A l.length c], .int .i64 m] w fun e w' => ∃ A' c', e = .returned (.tuple #[.agg #[.int .i64 m, .int .i64 nx, .slice A' (since l m).length c'], .int .i64 0]) ∧ kVn.R 48 w' w.heap.size (inR w.heap.size w'.heap.size) (.slice A' (since l m).length c') (since l m) ∧ Below w.heap.size w w' := by
  refine (since19_any l nx m A c w hC hl HR h1 h2).mono ?_
  rintro e w' ⟨v, rfl, ho, hb⟩
  obtain ⟨A', c', rfl⟩ := Kd.R_slice ho
  exact ⟨A', c', rfl, Kd.R_mono (Kd.R_bound ho) (fun k hk => ⟨hk.2.1, hk.2.2.1⟩), hb⟩
theorem copy_w (l : List Vn) (nx : Int) (A : Option Addr) (c : Nat) (w : World) (hC : kVn.C w A l.length l) (hl : l.length ≤ c) (HR : Room l) :
    Calls Try.prog 10 #[.agg #[.int .i64 nx, .slice A l.length c]] w fun e w' => ∃ A' c', e = .returned (.agg #[.int .i64 nx, .slice A' l.length c']) ∧ kVn.R 48 w' w.heap.size (inR w.heap.size w'.heap.size) (.slice A' l.length c') l ∧ Below w.heap.size w w' := by
  refine (copy_any l nx A c w hC hl HR).mono ?_
  rintro e w' ⟨v, rfl, ho, hb⟩
  obtain ⟨A', c', rfl⟩ := Kd.R_slice ho
  exact ⟨A', c', rfl, Kd.R_mono (Kd.R_bound ho) (fun k hk => ⟨hk.2.1, hk.2.2.1⟩), hb⟩
theorem rt_nodup {l : List Vn} {nx : Int} (h : Rt l nx) : (l.map Vn.seq).Nodup := by
  rw [List.nodup_iff_pairwise_ne, List.pairwise_map]
  exact h.srt.imp (fun h => h.2)
theorem apply_w (l : List Vn) (nx m : Int) (A B : Option Addr) (c d : Nat) (w : World) (hR : Rt l nx) (HR : Room l) (h1 : 1 ≤ m) (h2 : m ≤ nx) (hC : kVn.C w A (lower l m).length (lower l m)) (hl : (lower l m).length ≤ c) (hD : kVn.C w B (since l m).length (since l m)) (hm : (since l m).length ≤ d) :
    Calls Try.prog 16 #[.agg #[.int .i64 m, .slice A (lower l m).length c], .agg #[.int .i64 m, .int .i64 nx, .slice B (since l m).length d]] w fun e w' => ∃ A' c', e = .returned (.tuple #[.agg #[.int .i64 nx, .slice A' l.length c'], .int .i64 0]) ∧ Kd.S kVn 48 w' w.heap.size (inR w.heap.size w'.heap.size) (.slice A' l.length c') l ∧ Below w.heap.size w w' := by
  obtain ⟨b1, b2⟩ := bytes_since hR m
  have e : mrg (since (lower l m) all64) (since (since l m) all64) = l := by
    rw [since_all (fun x hx => ((hR.lower h1 h2).all x hx).2.1), since_all (fun x hx => ((hR.since (m := m)).all x hx).2.1)]
    exact mrg_since hR m
  refine (apply_S (lower l m) (since l m) m m nx A B c d w hC hl (room_lower HR m) hD hm (room_since HR m) rfl b1 b2).mono ?_
  rintro e' w' ⟨v, rfl, _, ho, hb⟩
  rw [e] at ho
  have ho := ho (rt_nodup hR)
  obtain ⟨A', c', rfl⟩ := Kd.S_slice ho
  exact ⟨A', c', rfl, Kd.S_mono (Kd.S_bound ho) (fun k hk => ⟨hk.1, hk.2.2.1⟩), hb⟩
theorem same_w (l : List Vn) (nx : Int) (A B : Option Addr) (c d : Nat) (w : World) (hC : kVn.C w A l.length l) (hD : kVn.C w B l.length l) (hc : l.length ≤ c) (hd : l.length ≤ d) :
    Calls Try.prog 18 #[.agg #[.int .i64 nx, .slice A l.length c], .agg #[.int .i64 nx, .slice B l.length d]] w fun e w' => e = .returned (.bool true) ∧ Below w.heap.size w w' := by
  refine (same_any l l nx nx A B c d w hC hD hc hd).mono ?_
  rintro e w' ⟨rfl, hb⟩
  exact ⟨by simp [sVns], hb⟩
theorem kept_w (l : List Vn) (nx nx' : Int) (hR : Rt l nx') (A : Option Addr) (c : Nat) (B : Option Addr) (d : Nat) (w : World) {base : Nat} {ok : Nat → Prop} (hG : Owned w base ok A c l) (hC : kVn.C w B l.length l) (hd : l.length ≤ d) :
    Calls Try.prog 24 #[.agg #[.int .i64 nx, .slice A l.length c], .agg #[.int .i64 nx, .slice B l.length d]] w fun e w' => e = .returned (.bool true) ∧ Below w.heap.size w w' := by
  obtain ⟨h1, h2⟩ := rt_pairs hR
  exact kept_any l nx nx rfl A c B d w hG hC hd (by omega) (fun x hx => by have := h2 x hx; omega)
theorem marked_w (l : List Vn) (nx nx' : Int) (hR : Rt l nx') (A : Option Addr) (c lo hi : Nat) (w : World) (hS : Kd.S kVn 48 w lo (inR lo hi) (.slice A l.length c) l) (hlo : lo ≤ w.heap.size) (hhi : hi ≤ w.heap.size) :
    Calls Try.prog 25 #[.agg #[.int .i64 nx, .slice A l.length c]] w fun e w' => e = .returned (.tuple #[]) ∧ Kd.S kVn 48 w' lo (inR lo hi) (.slice A l.length c) (mkL l) ∧ Wi lo hi w w' := by
  obtain ⟨h1, h2⟩ := rt_pairs hR
  exact marked_any l nx A c lo hi w hS hlo hhi (by omega) (fun x hx => by have := h2 x hx; omega)
theorem grown_w (l : List Vn) (nx nx' : Int) (hR : Rt l nx') (A : Option Addr) (c lo hi : Nat) (w : World) (hS : Kd.S kVn 48 w lo (inR lo hi) (.slice A l.length c) (mkL l)) (hlo : lo ≤ w.heap.size) (hhi : hi ≤ w.heap.size) :
    Calls Try.prog 26 #[.agg #[.int .i64 nx, .slice A l.length c]] w fun e w' => e = .returned (.bool true) ∧ Wi lo hi w w' := by
  obtain ⟨h1, h2⟩ := rt_pairs hR
  exact grown_any l nx A c lo hi w hS hlo hhi (by omega) (fun x hx => by have := h2 x hx; omega)
/-- a row's C and room -/
theorem S_C {w : World} {base n c : Nat} {ok : Nat → Prop} {A : Option Addr} {l : List Vn} (h : Kd.S kVn 48 w base ok (.slice A n c) l) : kVn.C w A l.length l ∧ l.length ≤ c := by
  obtain ⟨h1, h2, h3⟩ := Kd.S_reads' h
  exact ⟨h3, by omega⟩
theorem R_C {w : World} {base n c : Nat} {ok : Nat → Prop} {A : Option Addr} {l : List Vn} (h : kVn.R 48 w base ok (.slice A n c) l) : kVn.C w A l.length l ∧ l.length ≤ c := by
  obtain ⟨h1, h2, h3⟩ := Kd.R_reads' h
  exact ⟨h3, by omega⟩
theorem O_C {w : World} {base c : Nat} {ok : Nat → Prop} {A : Option Addr} {l : List Vn} (h : Owned w base ok A c l) : kVn.C w A l.length l ∧ l.length ≤ c := S_C h.plain
theorem bxB_new (w : World) (nx : Int) (A : Option Addr) (n c : Nat) : bxB (w.alloc (.cells #[.int .i64 nx, .slice A n c] 24)) w.heap.size nx A n c := blk_new w _
theorem bxD_new (w : World) (s nx : Int) (A : Option Addr) (n c : Nat) : bxD (w.alloc (.cells #[.int .i64 s, .int .i64 nx, .slice A n c] 27)) w.heap.size s nx A n c := blk_new w _
theorem bxB.below {w w1 : World} {b n c : Nat} {nx : Int} {A : Option Addr} (h : bxB w b nx A n c) (hb : Below w.heap.size w w1) : bxB w1 b nx A n c := (hb.block b (Array.getElem?_eq_some_iff.1 h).1).trans h
theorem bxD.below {w w1 : World} {b n c : Nat} {s nx : Int} {A : Option Addr} (h : bxD w b s nx A n c) (hb : Below w.heap.size w w1) : bxD w1 b s nx A n c := (hb.block b (Array.getElem?_eq_some_iff.1 h).1).trans h
structure Sit2 (N : Nums) (w wr : World) : Prop where
  s : Sit N w wr
  o : Owned wr N.o1 (inR N.o1 N.o2) N.Ao N.co N.l
  b : Kd.S kVn 48 wr N.b1 (inR N.b1 N.b2) (.slice N.Ab (since N.l N.m).length N.cb) (since N.l N.m)
theorem Nums.Ok.far {N : Nums} (K : N.Ok) : (∀ k, inR N.a1 N.a2 k → k < N.c1 ∨ N.c2 ≤ k) ∧ (∀ k, inR N.c1 N.c2 k → k < N.a1 ∨ N.a2 ≤ k) ∧ (∀ k, inR N.b1 N.b2 k → k < N.a1 ∨ N.a2 ≤ k) ∧ (∀ k, inR N.b1 N.b2 k → k < N.c1 ∨ N.c2 ≤ k) ∧ (∀ k, inR N.o1 N.o2 k → k < N.a1 ∨ N.a2 ≤ k) ∧ (∀ k, inR N.o1 N.o2 k → k < N.c1 ∨ N.c2 ≤ k) ∧ (∀ k, inR N.b1 N.b2 k → k < N.o1 ∨ N.o2 ≤ k) := by
  obtain ⟨k1, k2, k3, k4, k5, k6, k7, k8, k9, k10, k11, k12, k13, k14, k15, k16, k17, k18, k19, k20, k21, k22, k23, k24, k25⟩ := K
  unfold inR
  refine ⟨?_, ?_, ?_, ?_, ?_, ?_, ?_⟩ <;> intro k hk <;> omega
theorem Sit2.below {N : Nums} {w wr w1 : World} (h : Sit2 N w wr) (K : N.Ok) (hb : Below wr.heap.size wr w1) : Sit2 N w w1 := ⟨h.s.below K hb, h.o.below hb, Kd.S_below h.b hb⟩
theorem Sit2.mA {N : Nums} {w wr w1 : World} (h : Sit2 N w wr) (K : N.Ok) (hb : Wi N.a1 N.a2 wr w1) : Sit2 N w w1 := ⟨h.s.move K hb (.inl ⟨rfl, rfl⟩), hb.owned h.o K.far.2.2.2.2.1, hb.S h.b K.far.2.2.1⟩
theorem Sit2.mC {N : Nums} {w wr w1 : World} (h : Sit2 N w wr) (K : N.Ok) (hb : Wi N.c1 N.c2 wr w1) : Sit2 N w w1 := ⟨h.s.move K hb (.inr (.inl ⟨rfl, rfl⟩)), hb.owned h.o K.far.2.2.2.2.2.1, hb.S h.b K.far.2.2.2.1⟩
theorem Sit.mO {N : Nums} {w wr w1 : World} (h : Sit N w wr) (K : N.Ok) (hb : Wi N.o1 N.o2 wr w1) : Sit N w w1 := h.move K hb (.inr (.inr (.inl ⟨rfl, rfl⟩)))
theorem Sit.mB {N : Nums} {w wr w1 : World} (h : Sit N w wr) (K : N.Ok) (hb : Wi N.b1 N.b2 wr w1) : Sit N w w1 := h.move K hb (.inr (.inr (.inr ⟨rfl, rfl⟩)))
theorem Nums.Ok.tops {N : Nums} (K : N.Ok) {w wr : World} (h : Sit N w wr) : (N.a1 ≤ wr.heap.size ∧ N.a2 ≤ wr.heap.size) ∧ (N.b1 ≤ wr.heap.size ∧ N.b2 ≤ wr.heap.size) ∧ (N.c1 ≤ wr.heap.size ∧ N.c2 ≤ wr.heap.size) ∧ (N.o1 ≤ wr.heap.size ∧ N.o2 ≤ wr.heap.size) := by
  have ht := h.top
  obtain ⟨k1, k2, k3, k4, k5, k6, k7, k8, k9, k10, k11, k12, k13, k14, k15, k16, k17, k18, k19, k20, k21, k22, k23, k24, k25⟩ := K
  omega
/-- a version's data is emptied -/
def noData (x : Vn) : Vn := ⟨x.key, x.seq, x.gone, ⟨#[]⟩, x.pairs⟩
theorem Aq.dat {w wr : World} {lo hi g n cap i : Nat} {l : List Vn} (h : Aq w wr lo hi (.slice (some ⟨g, 0, none⟩) n cap) (LstB l i)) (hi' : i < n) (hl : i < l.length) :
    Aq w (wr.setCell ⟨g, i * 5 + 3, none⟩ (.string ⟨#[]⟩)) lo hi (.slice (some ⟨g, 0, none⟩) n cap) ((LstB l i).set i (noData l[i])) := by
  obtain ⟨v4, _, _, _, e4', _, _, hput⟩ := h.cells i hi'
  rw [lstb_at l i hl] at hput
  exact hput ⟨l[i].key, l[i].seq, l[i].gone, ⟨#[]⟩, l[i].pairs⟩ 3 (.string ⟨#[]⟩) rfl (.inr (.inr ⟨rfl, rfl, rfl⟩))
theorem Aq.off {w wr : World} {lo hi g n cap i : Nat} {l : List Vn} {x : Vn} (h : Aq w wr lo hi (.slice (some ⟨g, 0, none⟩) n cap) ((LstB l i).set i (noData x))) (hl : i < l.length) (hx : l[i] = x) (hi' : i < n) {A4 : Option Addr} {n4 c4 : Nat} (e4 : wr.cell? ⟨g, i * 5 + 4, none⟩ = some (.slice A4 n4 c4)) :
    Aq w (wr.setCell ⟨g, i * 5 + 4, none⟩ (.slice A4 0 c4)) lo hi (.slice (some ⟨g, 0, none⟩) n cap) (LstB l (i + 1)) := by
  have h2 := h.cut i hi' e4
  rw [setD _ i _ (by rw [lstb_len l i (Nat.le_of_lt hl)]; exact hl), List.set_set] at h2
  subst hx
  rw [← lstb_next l i hl]
  exact h2
theorem since_n (k : List Vn) (n : Nat) (hk : k.length = n) (nx m : Int) (A : Option Addr) (c : Nat) (w : World) (hC : kVn.C w A k.length k) (hl : k.length ≤ c) (HR : Room k) (h1 : 1 ≤ m) (h2 : m ≤ nx) :
    Calls Try.prog 9 #[.agg #[.int .i64 nx, .slice A n c], .int .i64 m] w fun e w' => ∃ A' c', e = .returned (.tuple #[.agg #[.int .i64 m, .int .i64 nx, .slice A' (since k m).length c'], .int .i64 0]) ∧ Kd.S kVn 48 w' w.heap.size (inR w.heap.size w'.heap.size) (.slice A' (since k m).length c') (since k m) ∧ Below w.heap.size w w' := by
  subst hk
  exact since_w k nx m A c w hC hl HR h1 h2
theorem copy_n (k : List Vn) (n : Nat) (hk : k.length = n) (nx : Int) (A : Option Addr) (c : Nat) (w : World) (hC : kVn.C w A k.length k) (hl : k.length ≤ c) (HR : Room k) :
    Calls Try.prog 10 #[.agg #[.int .i64 nx, .slice A n c]] w fun e w' => ∃ A' c', e = .returned (.agg #[.int .i64 nx, .slice A' n c']) ∧ kVn.R 48 w' w.heap.size (inR w.heap.size w'.heap.size) (.slice A' n c') k ∧ Below w.heap.size w w' := by
  subst hk
  exact copy_w k nx A c w hC hl HR
theorem since19_n (k : List Vn) (n : Nat) (hk : k.length = n) (nx m : Int) (A : Option Addr) (c : Nat) (w : World) (hC : kVn.C w A k.length k) (hl : k.length ≤ c) (HR : Room k) (h1 : 1 ≤ m) (h2 : m ≤ nx) :
    Calls Try.prog 11 #[.agg #[.int .i64 nx, .slice A n c], .int .i64 m] w fun e w' => ∃ A' c', e = .returned (.tuple #[.agg #[.int .i64 m, .int .i64 nx, .slice A' (since k m).length c'], .int .i64 0]) ∧ kVn.R 48 w' w.heap.size (inR w.heap.size w'.heap.size) (.slice A' (since k m).length c') (since k m) ∧ Below w.heap.size w w' := by
  subst hk
  exact since19_w k nx m A c w hC hl HR h1 h2
theorem bxD.wi {w w1 : World} {b n c lo hi : Nat} {s nx : Int} {A : Option Addr} (h : bxD w b s nx A n c) (hw : Wi lo hi w w1) (hb : hi ≤ b) : bxD w1 b s nx A n c := (hw.block (.inr hb) (Array.getElem?_eq_some_iff.1 h).1).trans h
theorem R_wi {w w1 : World} {base s1 s2 lo hi : Nat} {v : Value} {l : List Vn} (h : kVn.R 48 w base (inR s1 s2) v l) (hw : Wi lo hi w w1) (hb : hi ≤ s1) : kVn.R 48 w1 base (inR s1 s2) v l := hw.R h (fun k hk => .inr (Nat.le_trans hb hk.1))
theorem R_C' {w : World} {base n c : Nat} {ok : Nat → Prop} {A : Option Addr} {l : List Vn} (h : kVn.R 48 w base ok (.slice A n c) l) : kVn.C w A l.length l ∧ l.length ≤ c := R_C h
end Go.Proofs.Ytbhdehkdnenigaa

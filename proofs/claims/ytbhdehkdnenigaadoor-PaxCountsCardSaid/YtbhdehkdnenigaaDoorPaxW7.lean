/- Walks: pax.caught, the deferred closure of pax.Read, and pax.Read. -/
import Derived.Test.YtbhdehkdnenigaaDoorPaxW6
import Derived.IntWalk
set_option linter.unusedVariables false
set_option linter.unusedSimpArgs false
namespace Go.Proofs.YtbhdehkdnenigaaDoor
open Go.RowKit
attribute [local go_sem] bs_size bs_append bs_extract take_drop_len bs_toList

theorem ta_some (w : World) : (Instr.typeAssert (.iface 44 (.agg #[])) 20 44 true).run Tryd.prog w = .ok (.tuple #[.agg #[], .bool true]) w := by kernel_rfl
theorem ta_nil (w : World) : (Instr.typeAssert .nilIface 20 44 true).run Tryd.prog w = .ok (.tuple #[.agg #[], .bool false]) w := by kernel_rfl
theorem caught_some (w : World) : Calls Tryd.prog 23 #[.iface 44 (.agg #[])] w fun e w' => e = .returned (.bool true) ∧ Below w.heap.size w w' := by
  have h1 := ta_some
  go_enter Tryd.func23, Tryd.ntmps23
  go_wp2
  go_ret
  exact ⟨rfl, (Below.refl _ _).alloc (Nat.le_refl _) _⟩
theorem caught_nil (w : World) : Calls Tryd.prog 23 #[.nilIface] w fun e w' => e = .returned (.bool false) ∧ Below w.heap.size w w' := by
  have h1 := ta_nil
  go_enter Tryd.func23, Tryd.ntmps23
  go_wp2
  go_ret
  exact ⟨rfl, (Below.refl _ _).alloc (Nat.le_refl _) _⟩

/-- The four results in memory. -/
structure Four (w : World) (B0 B1 B2 B3 : Nat) (k v : ByteArray) (n e : Int) : Prop where
  c0 : w.cell? ⟨B0, 0, none⟩ = some (.string k)
  c1 : w.cell? ⟨B1, 0, none⟩ = some (.string v)
  c2 : w.cell? ⟨B2, 0, none⟩ = some (.int .i64 n)
  c3 : w.cell? ⟨B3, 0, none⟩ = some (.int .i64 e)
  z0 : w.frozen? ⟨B0, 0, none⟩ = false
  z1 : w.frozen? ⟨B1, 0, none⟩ = false
  z2 : w.frozen? ⟨B2, 0, none⟩ = false
  z3 : w.frozen? ⟨B3, 0, none⟩ = false
theorem Four.below {w w' : World} {B0 B1 B2 B3 : Nat} {k v : ByteArray} {n e : Int} (h : Four w B0 B1 B2 B3 k v n e) (hb : Below w.heap.size w w') : Four w' B0 B1 B2 B3 k v n e :=
  have l0 := World.block_lt_of_cell? w _ h.c0
  have l1 := World.block_lt_of_cell? w _ h.c1
  have l2 := World.block_lt_of_cell? w _ h.c2
  have l3 := World.block_lt_of_cell? w _ h.c3
  ⟨(hb.cell l0).trans h.c0, (hb.cell l1).trans h.c1, (hb.cell l2).trans h.c2, (hb.cell l3).trans h.c3,
   (hb.frozen l0).trans h.z0, (hb.frozen l1).trans h.z1, (hb.frozen l2).trans h.z2, (hb.frozen l3).trans h.z3⟩

theorem catch_some (B0 B1 B2 B3 : Nat) (k v : ByteArray) (n e : Int) (w : World) (h : Four w B0 B1 B2 B3 k v n e) (h01 : B0 < B1) (h12 : B1 < B2) (h23 : B2 < B3) :
    CallsD Tryd.prog 22 #[.pointer (some ⟨B0, 0, none⟩), .pointer (some ⟨B1, 0, none⟩), .pointer (some ⟨B2, 0, none⟩), .pointer (some ⟨B3, 0, none⟩)] (.panicking noneChain) w fun e u' w' =>
      e = .returned (.tuple #[]) ∧ (∃ x, u' = .panicking [{ v := x, recovered := true }]) ∧ Four w' B0 B1 B2 B3 ⟨#[]⟩ ⟨#[]⟩ 0 4 ∧ Below B0 w w' := by
  have n01 : ¬ B0 = B1 := by omega
  have n02 : ¬ B0 = B2 := by omega
  have n03 : ¬ B0 = B3 := by omega
  have n12 : ¬ B1 = B2 := by omega
  have n13 : ¬ B1 = B3 := by omega
  have n23 : ¬ B2 = B3 := by omega
  have m01 : ¬ B1 = B0 := by omega
  have m02 : ¬ B2 = B0 := by omega
  have m03 : ¬ B3 = B0 := by omega
  have m12 : ¬ B2 = B1 := by omega
  have m13 : ¬ B3 = B1 := by omega
  have m23 : ¬ B3 = B2 := by omega
  refine callsD_of_wpS Tryd.func22 rfl fun c₀ cs hu => ?_
  unfold noneChain at hu
  apply wpS_seq
  apply wpS_region
  simp [wpOpsS, go_sem, recoverD, hu, Tryd.ntmps22, Exit.thenS]
  refine (caught_some _).mono ?_
  rintro e w1 ⟨rfl, hb⟩
  have h1 := h.below hb
  refine wpS_cond (t := true) (by simp [Act.eval, Array.replicate]) ?_
  simp only [if_true]
  apply wpS_region
  have c0 := h1.c0
  have c1 := h1.c1
  have c2 := h1.c2
  have c3 := h1.c3
  have z0 := h1.z0
  have z1 := h1.z1
  have z2 := h1.z2
  have z3 := h1.z3
  simp [wpOpsS, go_sem, c0, c1, c2, c3, z0, z1, z2, z3, n01, n02, n03, n12, n13, n23, m01, m02, m03, m12, m13, m23, bodyPostS, results, Tryd.results22]
  have hB := World.block_lt_of_cell? w _ h.c0
  refine ⟨⟨?_, ?_, ?_, ?_, ?_, ?_, ?_, ?_⟩, ((((hb.mono (Nat.le_of_lt hB)).setCell ?_ _).setCell ?_ _).setCell ?_ _).setCell ?_ _⟩
  all_goals first | (simp [go_sem, c0, c1, c2, c3, z0, z1, z2, z3, n01, n02, n03, n12, n13, n23, m01, m02, m03, m12, m13, m23]; done) | (simp; omega)
theorem catch_idle (a0 a1 a2 a3 : Value) (w : World) :
    CallsD Tryd.prog 22 #[a0, a1, a2, a3] .returning w fun e u' w' =>
      e = .returned (.tuple #[]) ∧ u' = .returning ∧ Below w.heap.size w w' := by
  refine callsD_of_wpS Tryd.func22 rfl fun c₀ cs hu => ?_
  apply wpS_seq
  apply wpS_region
  simp [wpOpsS, go_sem, recoverD, hu, Tryd.ntmps22, Exit.thenS]
  refine (caught_nil _).mono ?_
  rintro e w1 ⟨rfl, hb⟩
  refine wpS_cond (t := false) (by simp [Act.eval, Array.replicate]) ?_
  simp only [Bool.false_eq_true, if_false]
  refine wpS_of_wp (wp_skip ?_)
  cases c₀
  simp_all [bodyPostS, results, Tryd.results22]
theorem readProg_le {s k v : List UInt8} {n : Nat} (h : Pax.readProg s = some (k, v, n)) : n ≤ s.length := by
  unfold Pax.readProg at h
  split at h
  · cases h
  · split at h
    · cases h
    · unfold Pax.readD at h
      split at h
      · rename_i hc
        unfold Pax.readTail at h
        split at h
        · cases h
        · split at h
          · simp only [Option.some.injEq, Prod.mk.injEq] at h
            omega
          · cases h
      · cases h
theorem four_new (w : World) (t0 t1 t2 t3 : TypeId) : Four ((((w.alloc (.cells #[.string ⟨#[]⟩] t0)).alloc (.cells #[.string ⟨#[]⟩] t1)).alloc (.cells #[.int .i64 0] t2)).alloc (.cells #[.int .i64 0] t3)) w.heap.size (w.heap.size + 1) (w.heap.size + 1 + 1) (w.heap.size + 1 + 1 + 1) ⟨#[]⟩ ⟨#[]⟩ 0 0 := by
  refine ⟨?_, ?_, ?_, ?_, ?_, ?_, ?_, ?_⟩
  all_goals simp [go_sem]
theorem four_below (w : World) (o0 o1 o2 o3 : Obj) : Below w.heap.size w ((((w.alloc o0).alloc o1).alloc o2).alloc o3) :=
  ((((Below.refl _ _).alloc (Nat.le_refl _) _).alloc (by simp) _).alloc (by simp; omega) _).alloc (by simp; omega) _
theorem paxRead_in (l : List UInt8) (a : Nat) (w : World) (hs : l.length ≤ 1125899906842624) (ha : a < l.length) (htab : Lib.TabIs Tryd.prog w "internal/strconv.uint64pow10" .u64 Lib.pow10Tab) : Calls Tryd.prog 11 #[.string (bs l), .int .i64 a] w fun e w' => e = .returned (readRes (Pax.readProg (l.drop a)) a) ∧ Below w.heap.size w w' := by
  have HT := Lib.hid htab
  clear htab
  have b1 : decide ((a : Int) < 0) = false := by simp
  have b2 : decide ((l.length : Int) < (a : Int)) = false := by simp; omega
  have b3 : ((a : Int) == (l.length : Int)) = false := by simp; omega
  have HR := fun w' h => Lib.hid (record_any (l.drop a) w' (by rw [List.length_drop]; omega) h)
  have hmf : ∀ (fn : Fn) (first cap : Array Value) (w : World), (Instr.makeFunc fn first cap).run Tryd.prog w = .ok (.func fn first cap) w := fun _ _ _ _ => rfl
  cases hr : Pax.readProg (l.drop a) with
  | none =>
    have HN := fun w' h => Lib.hid (((HR w' h).out).mono (R' := fun e w1 => e = .panicked noneChain ∧ Below w'.heap.size w' w1) fun e w1 ⟨h1, h2⟩ => ⟨h1.trans (by rw [hr]; rfl), h2⟩)
    clear hr HR
    go_enter_defers Tryd.func11, Tryd.ntmps11
    go_wp2_with (go_at_call 24; refine (HN _ (Lib.tabIs_alloc (Lib.tabIs_alloc (Lib.tabIs_alloc (Lib.tabIs_alloc HT.out _) _) _) _)).out.mono ?_; rintro e w1 ⟨rfl, hb1⟩)
    have h4 := (four_new w _ _ _ _).below hb1
    have hbw := (four_below w _ _ _ _).trans (hb1.mono (four_below w _ _ _ _).size)
    refine leaves_cons (f := 22) (args := #[.pointer (some ⟨w.heap.size, 0, none⟩), .pointer (some ⟨w.heap.size + 1, 0, none⟩), .pointer (some ⟨w.heap.size + 1 + 1, 0, none⟩), .pointer (some ⟨w.heap.size + 1 + 1 + 1, 0, none⟩)]) (by simp) (by simp [go_sem]) ?_
    refine (catch_some _ _ _ _ _ _ _ _ _ h4 (by omega) (by omega) (by omega)).mono ?_
    rintro e u' w2 ⟨rfl, ⟨x, rfl⟩, h5, hb2⟩
    have c0 := h5.c0
    have c1 := h5.c1
    have c2 := h5.c2
    have c3 := h5.c3
    simp [Leaves, settle, results, Tryd.results11, go_sem, c0, c1, c2, c3]
    exact ⟨rfl, hbw.trans hb2⟩
  | some p =>
    obtain ⟨k, v, n⟩ := p
    have hle := readProg_le hr
    rw [List.length_drop] at hle
    have HN := fun w' h => Lib.hid (((HR w' h).out).mono (R' := fun e w1 => e = .returned (.tuple #[.string (bs k), .string (bs v), .int .i64 n]) ∧ Below w'.heap.size w' w1) fun e w1 ⟨h1, h2⟩ => ⟨h1.trans (by rw [hr]; rfl), h2⟩)
    clear hr HR
    go_enter_defers Tryd.func11, Tryd.ntmps11
    go_wp2_with (go_at_call 24; refine (HN _ (Lib.tabIs_alloc (Lib.tabIs_alloc (Lib.tabIs_alloc (Lib.tabIs_alloc HT.out _) _) _) _)).out.mono ?_; rintro e w1 ⟨rfl, hb1⟩; have h4 := (four_new w _ _ _ _).below hb1; have c0 := h4.c0; have c1 := h4.c1; have c2 := h4.c2; have c3 := h4.c3; have z0 := h4.z0; have z1 := h4.z1; have z2 := h4.z2; have z3 := h4.z3)
    have hbw := (four_below w (.cells #[.string ⟨#[]⟩] 9) (.cells #[.string ⟨#[]⟩] 9) (.cells #[.int .i64 0] 3) (.cells #[.int .i64 0] 22)).trans (hb1.mono (four_below w _ _ _ _).size)
    obtain ⟨W2, hW⟩ : ∃ W2, W2 = (((w1.setCell ⟨w.heap.size, 0, none⟩ (.string (bs k))).setCell ⟨w.heap.size + 1, 0, none⟩ (.string (bs v))).setCell ⟨w.heap.size + 1 + 1, 0, none⟩ (.int .i64 n)) := ⟨_, rfl⟩
    have h5 : Four W2 w.heap.size (w.heap.size + 1) (w.heap.size + 1 + 1) (w.heap.size + 1 + 1 + 1) (bs k) (bs v) n 0 := by
      rw [hW]
      refine ⟨?_, ?_, ?_, ?_, ?_, ?_, ?_, ?_⟩
      all_goals simp [go_sem, c0, c1, c2, c3, z0, z1, z2, z3]
    have hb5 : Below w.heap.size w W2 := by
      rw [hW]
      exact ((hbw.setCell (Nat.le_refl _) _).setCell (by simp) _).setCell (by simp; omega) _
    rw [← hW]
    clear c0 c1 c2 c3 z0 z1 z2 z3 h4 hbw hW hb1 HN
    have c0 := h5.c0
    have c1 := h5.c1
    have c2 := h5.c2
    have c3 := h5.c3
    have z0 := h5.z0
    have z1 := h5.z1
    have z2 := h5.z2
    have z3 := h5.z3
    go_region
    go_wp2
    obtain ⟨W3, hW⟩ : ∃ W3, W3 = ((((W2.setCell ⟨w.heap.size, 0, none⟩ (.string (bs k))).setCell ⟨w.heap.size + 1, 0, none⟩ (.string (bs v))).setCell ⟨w.heap.size + 1 + 1, 0, none⟩ (.int .i64 ((a : Int) + n))).setCell ⟨w.heap.size + 1 + 1 + 1, 0, none⟩ (.int .i64 0)).drew := ⟨_, rfl⟩
    have h6 : Four W3 w.heap.size (w.heap.size + 1) (w.heap.size + 1 + 1) (w.heap.size + 1 + 1 + 1) (bs k) (bs v) ((a : Int) + n) 0 := by
      rw [hW]
      refine ⟨?_, ?_, ?_, ?_, ?_, ?_, ?_, ?_⟩
      all_goals simp [go_sem, c0, c1, c2, c3, z0, z1, z2, z3]
    have hb6 : Below w.heap.size w W3 := by
      rw [hW]
      exact ((((hb5.setCell (Nat.le_refl _) _).setCell (by simp) _).setCell (by simp; omega) _).setCell (by simp; omega) _).drew
    rw [← hW]
    clear hW c0 c1 c2 c3 z0 z1 z2 z3 h5 hb5
    refine leaves_cons (f := 22) (args := #[.pointer (some ⟨w.heap.size, 0, none⟩), .pointer (some ⟨w.heap.size + 1, 0, none⟩), .pointer (some ⟨w.heap.size + 1 + 1, 0, none⟩), .pointer (some ⟨w.heap.size + 1 + 1 + 1, 0, none⟩)]) (by simp) (by simp [go_sem]) ?_
    refine (catch_idle _ _ _ _ _).mono ?_
    rintro e u' w2 ⟨rfl, rfl, hb2⟩
    have h7 := h6.below hb2
    have c0 := h7.c0
    have c1 := h7.c1
    have c2 := h7.c2
    have c3 := h7.c3
    simp [Leaves, settle, results, Tryd.results11, go_sem, c0, c1, c2, c3]
    exact ⟨rfl, hb6.trans (hb2.mono hb6.size)⟩

theorem paxRead_any (l : List UInt8) (a : Int) (w : World) (hs : l.length ≤ 1125899906842624) (htab : Lib.TabIs Tryd.prog w "internal/strconv.uint64pow10" .u64 Lib.pow10Tab) : Calls Tryd.prog 11 #[.string (bs l), .int .i64 a] w fun e w' => e = .returned (readAny l a Pax.readProg) ∧ Below w.heap.size w w' := by
  by_cases c1 : a < 0
  · have b1 : decide (a < 0) = true := by simp; omega
    have HR : Hid (readAny l a Pax.readProg = .tuple #[.string (bs []), .string (bs []), .int .i64 0, .int .i64 1]) := by simp [Hid, readAny, c1]
    go_enter Tryd.func11, Tryd.ntmps11
    go_wp2
    refine bodyPost_ret (v := .tuple #[.string (bs []), .string (bs []), .int .i64 0, .int .i64 1]) (by simp [results, Tryd.results11, go_sem, bs]) rfl ?_
    rw [HR.out]
    exact ⟨rfl, four_below _ _ _ _ _⟩
  have b1 : decide (a < 0) = false := by simp; omega
  by_cases c2 : (l.length : Int) < a
  · have b2 : decide ((l.length : Int) < a) = true := by simp; omega
    have HR : Hid (readAny l a Pax.readProg = .tuple #[.string (bs []), .string (bs []), .int .i64 0, .int .i64 1]) := by simp [Hid, readAny, c2]
    go_enter Tryd.func11, Tryd.ntmps11
    go_wp2
    refine bodyPost_ret (v := .tuple #[.string (bs []), .string (bs []), .int .i64 0, .int .i64 1]) (by simp [results, Tryd.results11, go_sem, bs]) rfl ?_
    rw [HR.out]
    exact ⟨rfl, four_below _ _ _ _ _⟩
  have b2 : decide ((l.length : Int) < a) = false := by simp; omega
  by_cases c3 : a = l.length
  · have b3 : (a == (l.length : Int)) = true := by simp [c3]
    have HR : Hid (readAny l a Pax.readProg = .tuple #[.string (bs []), .string (bs []), .int .i64 0, .int .i64 5]) := by simp [Hid, readAny, c3]
    clear c3
    go_enter Tryd.func11, Tryd.ntmps11
    go_wp2
    refine bodyPost_ret (v := .tuple #[.string (bs []), .string (bs []), .int .i64 0, .int .i64 5]) (by simp [results, Tryd.results11, go_sem, bs]) rfl ?_
    rw [HR.out]
    exact ⟨rfl, four_below _ _ _ _ _⟩
  · obtain ⟨n, rfl⟩ := Int.eq_ofNat_of_zero_le (show 0 ≤ a by omega)
    have HR : readAny l n Pax.readProg = readRes (Pax.readProg (l.drop n)) n := by simp [readAny, c1, c2, c3]
    rw [HR]
    exact paxRead_in l n w hs (by omega) htab
end Go.Proofs.YtbhdehkdnenigaaDoor

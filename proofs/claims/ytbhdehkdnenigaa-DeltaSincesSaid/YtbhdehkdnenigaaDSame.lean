/- Walks: metadata alike, versions alike, values alike. -/
import Derived.Test.YtbhdehkdnenigaaDAhead
import Derived.Test.YtbhdehkdnenigaaWEqStruct
set_option linter.unusedVariables false
set_option linter.unusedSimpArgs false
namespace Go.Proofs.Ytbhdehkdnenigaa
open Go.RowKit Go.Proofs.YtbhdehkdnenigaaW.PrintWords
attribute [local go_sem] Vn.val

def sPr (p q : Pr) : Bool := decide (p = q)
def sMeta (a b : List Pr) : Bool := decide (a = b)
def sVn (x y : Vn) : Bool := decide (x = y)
def sVns (a b : List Vn) : Bool := decide (a = b)
theorem sPr_eq (p q : Pr) : (p.n.toList == q.n.toList && (p.v.toList == q.v.toList)) = sPr p q := by
  unfold sPr
  by_cases h : p = q
  · subst h; simp
  · rw [decide_eq_false h, Bool.eq_false_iff]
    intro hb
    simp only [Bool.and_eq_true, beq_iff_eq] at hb
    exact h (by
      obtain ⟨p1, p2⟩ := p
      obtain ⟨q1, q2⟩ := q
      obtain rfl := toList_inj hb.1
      obtain rfl := toList_inj hb.2
      rfl)
theorem eqA_pair (d : Nat) (w : World) (x0 y0 : ByteArray) (x1 y1 : ByteArray) :
    (Op.equalIn (d + 2) 60 (.agg #[.string x0, .string x1]) (.agg #[.string y0, .string y1])).run Try.prog w = .ok (x0.toList == y0.toList && (x1.toList == y1.toList)) w := by
  refine eqA_of Try.underlying60 (by kernel_rfl) ?_
  refine eqf_cons (by rfl) (by go_simp; rfl) (by go_simp; rfl) (by go_simp) ?_
  exact eqf_last (by rfl) (by go_simp; rfl) (by go_simp; rfl) (by go_simp)
theorem neq_pair (p q : Pr) (w : World) : (binOp .neq 60 (.agg #[.string p.n, .string p.v]) (.agg #[.string q.n, .string q.v])).run Try.prog w = .ok (.bool (!sPr p q)) w := by
  rw [← sPr_eq]
  simp only [binOp]
  simp [Op.equal, Op.maxDepth, eqA_pair 9998]
theorem take_eq_succ {α : Type} (d : α) {a b : List α} {k : Nat} (h : a.take k = b.take k) (ha : k < a.length) (hb : k < b.length) (e : a.getD k d = b.getD k d) : a.take (k + 1) = b.take (k + 1) := by
  rw [List.take_succ_eq_append_getElem ha, List.take_succ_eq_append_getElem hb, h]
  simp only [List.getD_eq_getElem?_getD, List.getElem?_eq_getElem ha, List.getElem?_eq_getElem hb, Option.getD_some] at e
  rw [e]
set_option maxRecDepth 100000 in
set_option maxHeartbeats 400000 in
theorem sameMeta_any (l m : List Pr) (A B : Option Addr) (c d : Nat) (w : World) (hC : kPr.C w A l.length l) (hD : kPr.C w B m.length m) (hc : l.length ≤ c) (hd : m.length ≤ d) :
    Calls Try.prog 52 #[.slice A l.length c, .slice B m.length d] w fun e w' => e = .returned (.bool (sMeta l m)) ∧ Below w.heap.size w w' := by
  have HC := Lib.hid hC
  have HD := Lib.hid hD
  have hml := hC.2.1
  have hml2 := hD.2.1
  clear hC hD
  by_cases hl : l.length = m.length
  · have b1 : ((l.length : Int) == (m.length : Int)) = true := by simp [hl]
    have HL := Lib.hid hl
    clear hl
    have b2 : (l.length == m.length) = true := by rw [HL.out]; simp
    go_enter Try.func52, Try.ntmps52
    go_wp2
    go_loopw [5] (fun i wr => ∃ k : Nat, k ≤ l.length ∧ i = .int .i64 k ∧ Hid (l.take k = m.take k) ∧ Below w.heap.size w wr) (fun i _ => l.length - (intOf i).toNat)
    case atStart => exact ⟨0, Nat.zero_le _, rfl, rfl, Below.refl _ _⟩
    case round =>
      obtain ⟨k, hk, rfl, HM, hb⟩ := hrel
      have HCw := Kd.C_below HC.out hb
      have HDw := Kd.C_below HD.out hb
      by_cases hlt : k < l.length
      · have hlt2 : k < m.length := by have := HL.out; omega
        obtain ⟨ad, rfl, h1, h2⟩ := kPr_rd HCw k hlt
        obtain ⟨bd, rfl, h3, h4⟩ := kPr_rd HDw k hlt2
        have hq := fun W => neq_pair (rdP l k) (rdP m k) W
        cases hs : sPr (rdP l k) (rdP m k) with
        | true =>
          rw [hs] at hq
          have HB : Hid (l.take (k + 1) = m.take (k + 1)) := take_eq_succ zPr HM.out hlt hlt2 (of_decide_eq_true hs)
          clear HCw HDw hs
          go_wp2
          go_quiet (fail)
          go_wp2
          go_roundw
          case rel => exact ⟨k + 1, by omega, by go_num, HB.out, below_drewN hb _⟩
          case measure => simp [intOf]; omega
        | false =>
          rw [hs] at hq
          have HB : Hid (sMeta l m = false) := decide_eq_false (fun e => by subst e; simp [sPr] at hs)
          clear HCw HDw hs
          go_wp2
          go_quiet (fail)
          go_wp2
          go_ret
          exact ⟨ret_bool HB.out.symm, below_drewN hb _⟩
      · obtain rfl : k = l.length := by omega
        have h0 := HM.out
        rw [List.take_length, HL.out, List.take_length] at h0
        have HB : Hid (sMeta l m = true) := decide_eq_true h0
        clear HCw HDw h0
        go_wp2
        go_ret
        exact ⟨ret_bool HB.out.symm, hb⟩
  · have b1 : ((l.length : Int) == (m.length : Int)) = false := beq_eq_false_iff_ne.2 (by omega)
    have b2 : (l.length == m.length) = false := beq_eq_false_iff_ne.2 hl
    have HB : Hid (sMeta l m = false) := decide_eq_false (fun e => hl (by rw [e]))
    go_enter Try.func52, Try.ntmps52
    go_wp2
    go_ret
    exact ⟨ret_bool HB.out.symm, Below.refl _ _⟩
theorem sVn_eq (x y : Vn) : sVn x y = (x.key.toList == y.key.toList && (x.seq == y.seq && (x.gone == y.gone && (x.data.toList == y.data.toList && sMeta x.pairs y.pairs)))) := by
  unfold sVn
  by_cases h : x = y
  · subst h; simp [sMeta]
  · rw [decide_eq_false h]
    symm
    rw [Bool.eq_false_iff]
    intro hb
    simp only [Bool.and_eq_true, beq_iff_eq, sMeta, decide_eq_true_eq] at hb
    exact h (by
      obtain ⟨p1, p2, p3, p4, p5⟩ := x
      obtain ⟨q1, q2, q3, q4, q5⟩ := y
      obtain ⟨h1, h2, h3, h4, h5⟩ := hb
      obtain rfl := toList_inj h1
      obtain rfl := toList_inj h4
      simp only at h2 h3 h5
      subst h2 h3 h5
      rfl)
set_option maxRecDepth 100000 in
set_option maxHeartbeats 400000 in
theorem sameVersion_any (x y : Vn) (A B : Option Addr) (c d : Nat) (w : World) (hC : kPr.C w A x.pairs.length x.pairs) (hD : kPr.C w B y.pairs.length y.pairs) (hc : x.pairs.length ≤ c) (hd : y.pairs.length ≤ d) :
    Calls Try.prog 39 #[x.val A c, y.val B d] w fun e w' => e = .returned (.bool (sVn x y)) ∧ Below w.heap.size w w' := by
  have HS := fun w' (h : Below w.heap.size w w') => Lib.hid (sameMeta_any x.pairs y.pairs A B c d w' (Kd.C_below hC h) (Kd.C_below hD h) hc hd)
  have hv := sVn_eq x y
  clear hC hD
  cases c1 : x.key.toList == y.key.toList with
  | false =>
    rw [c1, Bool.false_and] at hv
    have HV := Lib.hid hv
    clear hv HS
    go_enter Try.func39, Try.ntmps39
    go_wp2
    go_ret
    exact ⟨ret_bool HV.out.symm, below2 _ _ _⟩
  | true =>
    rw [c1, Bool.true_and] at hv
    cases c2 : x.seq == y.seq with
    | false =>
      rw [c2, Bool.false_and] at hv
      have HV := Lib.hid hv
      clear hv HS
      go_enter Try.func39, Try.ntmps39
      go_wp2
      go_ret
      exact ⟨ret_bool HV.out.symm, below2 _ _ _⟩
    | true =>
      rw [c2, Bool.true_and] at hv
      cases c3 : x.gone == y.gone with
      | false =>
        rw [c3, Bool.false_and] at hv
        have HV := Lib.hid hv
        clear hv HS
        go_enter Try.func39, Try.ntmps39
        go_wp2
        go_ret
        exact ⟨ret_bool HV.out.symm, below2 _ _ _⟩
      | true =>
        rw [c3, Bool.true_and] at hv
        cases c4 : x.data.toList == y.data.toList with
        | false =>
          rw [c4, Bool.false_and] at hv
          have HV := Lib.hid hv
          clear hv HS
          go_enter Try.func39, Try.ntmps39
          go_wp2
          go_ret
          exact ⟨ret_bool HV.out.symm, below2 _ _ _⟩
        | true =>
          rw [c4, Bool.true_and] at hv
          have HV := Lib.hid hv
          clear hv
          go_enter Try.func39, Try.ntmps39
          go_wp2_with (go_at_call 52; refine (HS _ (below2 _ _ _)).out.mono ?_; rintro e w' ⟨rfl, hb2⟩)
          go_ret
          exact ⟨ret_bool HV.out.symm, (below2 _ _ _).trans (hb2.mono (by simp [go_sem]; omega))⟩
set_option maxRecDepth 100000 in
set_option maxHeartbeats 1000000 in
theorem same_any (l m : List Vn) (na nb : Int) (A B : Option Addr) (c d : Nat) (w : World) (hC : kVn.C w A l.length l) (hD : kVn.C w B m.length m) (hc : l.length ≤ c) (hd : m.length ≤ d) :
    Calls Try.prog 18 #[.agg #[.int .i64 na, .slice A l.length c], .agg #[.int .i64 nb, .slice B m.length d]] w fun e w' => e = .returned (.bool (na == nb && sVns l m)) ∧ Below w.heap.size w w' := by
  have HC := Lib.hid hC
  have HD := Lib.hid hD
  have hml := hC.2.1
  have hml2 := hD.2.1
  clear hC hD
  cases c0 : na == nb with
  | false =>
    have c1 : (na != nb) = true := by rw [bne, c0]; rfl
    go_enter Try.func18, Try.ntmps18
    go_wp2
    go_ret
    exact ⟨by simp, below2 _ _ _⟩
  | true =>
  rw [Bool.true_and]
  obtain rfl := beq_iff_eq.1 c0
  clear c0
  by_cases hl : l.length = m.length
  · have b1 : ((l.length : Int) == (m.length : Int)) = true := by simp [hl]
    have HL := Lib.hid hl
    clear hl
    have b2 : (l.length == m.length) = true := by rw [HL.out]; simp
    have b3 : ((l.length : Int) != (m.length : Int)) = false := by rw [HL.out]; simp
    go_enter Try.func18, Try.ntmps18
    go_wp2
    go_loopw [5] (fun i wr => ∃ k : Nat, k ≤ l.length ∧ i = .int .i64 k ∧ Hid (l.take k = m.take k) ∧ Below w.heap.size w wr ∧ wr.cell? ⟨w.heap.size, 1, none⟩ = some (.slice A l.length c) ∧ wr.cell? ⟨w.heap.size + 1, 1, none⟩ = some (.slice B m.length d)) (fun i _ => l.length - (intOf i).toNat)
    case atStart => exact ⟨0, Nat.zero_le _, rfl, rfl, below2 _ _ _, by simp [go_sem], by simp [go_sem]⟩
    case round =>
      obtain ⟨k, hk, rfl, HM, hb, hm1, hm2⟩ := hrel
      have HCw := Kd.C_below HC.out hb
      have HDw := Kd.C_below HD.out hb
      by_cases hlt : k < l.length
      · have hlt2 : k < m.length := by have := HL.out; omega
        obtain ⟨ad, A4, c4, rfl, h1, h2, h3, h4, h5, h6, h7⟩ := kVn_rd HCw k hlt
        obtain ⟨bd, B4, d4, rfl, g1, g2, g3, g4, g5, g6, g7⟩ := kVn_rd HDw k hlt2
        have hstep := take_eq_succ zVn HM.out hlt hlt2
        have hmiss : l = m → rdV l k = rdV m k := fun e => by rw [e]
        change rdV l k = rdV m k → _ at hstep
        generalize rdV l k = x at *
        generalize rdV m k = y at *
        have hs0 := fun w' h => sameVersion_any x y A4 B4 c4 d4 w' (Kd.C_below h7 h) (Kd.C_below g7 h) h6 g6
        cases hs : sVn x y with
        | true =>
          rw [hs] at hs0
          have HS := fun w' h => Lib.hid (hs0 w' h)
          have HB : Hid (l.take (k + 1) = m.take (k + 1)) := hstep (of_decide_eq_true hs)
          clear HCw HDw hs hstep hmiss h7 g7 hs0
          go_wp2
          go_still_tail 10, (by kernel_rfl)
          go_wp2_with (go_at_call 39; refine (HS _ (below_drewN (Below.refl _ _) 1)).out.mono ?_; rintro e w' ⟨rfl, hb2⟩)
          go_roundw
          case rel => exact ⟨k + 1, by omega, by go_num, HB.out, (below_drewN hb 1).trans (hb2.mono hb.size), pw_cell_below hb2 hm1, pw_cell_below hb2 hm2⟩
          case measure => simp [intOf]; omega
        | false =>
          rw [hs] at hs0
          have HS := fun w' h => Lib.hid (hs0 w' h)
          have HB : Hid (sVns l m = false) := decide_eq_false (fun e => by rw [hmiss e] at hs; simp [sVn] at hs)
          clear HCw HDw hs hstep hmiss h7 g7 hs0
          go_wp2
          go_still_tail 10, (by kernel_rfl)
          go_wp2_with (go_at_call 39; refine (HS _ (below_drewN (Below.refl _ _) 1)).out.mono ?_; rintro e w' ⟨rfl, hb2⟩)
          go_ret
          exact ⟨ret_bool HB.out.symm, (below_drewN hb 1).trans (hb2.mono hb.size)⟩
      · obtain rfl : k = l.length := by omega
        have h0 := HM.out
        rw [List.take_length, HL.out, List.take_length] at h0
        have HB : Hid (sVns l m = true) := decide_eq_true h0
        clear HCw HDw h0
        go_wp2
        go_ret
        exact ⟨ret_bool HB.out.symm, hb⟩
  · have b1 : ((l.length : Int) == (m.length : Int)) = false := beq_eq_false_iff_ne.2 (by omega)
    have b2 : (l.length == m.length) = false := beq_eq_false_iff_ne.2 hl
    have HB : Hid (sVns l m = false) := decide_eq_false (fun e => hl (by rw [e]))
    go_enter Try.func18, Try.ntmps18
    go_wp2
    go_ret
    exact ⟨ret_bool HB.out.symm, below2 _ _ _⟩
end Go.Proofs.Ytbhdehkdnenigaa

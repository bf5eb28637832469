/- The law ScriptNumbers of this seat: coffer/cofferlaw22.ScriptNumbers returns true for every input, and its arguments read as they did. The package-level tables are as the row lists them.
Plain law: the law on numbers: three commands there and back; ten lines that are none.
Walk: the law on numbers.
What a row says of a number: it is one of its kind.
What a law's contract gives its row: true is told, and what came in reads as it did. -/
import Derived.Test.YtdmlgligljagoaaDoorProg
import Derived.WalkKit
import Derived.ProofKit
import Derived.OpenShut
import Derived.ShutString
import Derived.Deep.DeepHandedRow
import Derived.Lib.LaidTab
import Derived.Test.YtdmlgligljagoaaDoorCards
import Derived.Test.YtdmlgligljagoaaDoorTie
import Derived.Test.YtdmlgligljagoaaDoorQN5
set_option linter.unusedVariables false
set_option linter.unusedSimpArgs false
namespace Go.Proofs.YtdmlgligljagoaaDoor
open Go.RowKit Go.Proofs.YtdmlgligljagoaaDoorW.PrintWords PS

def n1 (n : Int) : S36 := ⟨2, 0, 0, ⟨17, ⟨#[]⟩, ⟨#[]⟩, ⟨#[]⟩, [], 0, n, []⟩, ⟨#[]⟩⟩
def n2 (s : Int) : S36 := ⟨2, 0, 0, ⟨12, ⟨#[]⟩, ⟨#[]⟩, ⟨#[]⟩, [], s, 0, []⟩, ⟨#[]⟩⟩
def n3 (n s : Int) : S36 := ⟨1, n, s, z34, ⟨#[]⟩⟩
def n123 (n s : Int) : List S36 := [n1 n, n2 s, n3 n s]
theorem ln1 (n : Int) : lineT (n1 n) = tokens [wP bFall, wP (Lib.itoa n)] := by
  have hs : stepL (n1 n).f3 = joinSp (bs bFall :: [bs (Lib.itoa n)]) := rfl
  show (stepL (n1 n).f3).data.toList = _
  rw [hs, join_tokens bFall [wP (Lib.itoa n)] _ (by simp [tokT_wP, bs_data])]
def bSince : List UInt8 := [115, 105, 110, 99, 101]
theorem ln2 (s : Int) : (lineT (n2 s)).length ≤ 60 + (Lib.itoa s).length := by
  have hs : stepL (n2 s).f3 = joinSp (bs bSince :: [bs (quoteL []), bs (Lib.itoa s)]) := rfl
  show (stepL (n2 s).f3).data.toList.length ≤ _
  rw [hs]
  unfold joinSp
  rw [bs_data, List.map_cons, List.map_cons, List.map_cons, List.map_nil, bs_data, bs_data, bs_data, Lib.join_length]
  simp [Lib.lens, bSince, quoteL]
  omega
theorem n_facts (n s : Int) (hn : I64 n) (hs : I64 s) : (∀ c ∈ n123 n s, KindOK c ∧ CmdI c ∧ clearC c = c) := by
  intro c hc
  simp only [n123, List.mem_cons, List.not_mem_nil, or_false] at hc
  rcases hc with rfl | rfl | rfl
  · exact ⟨.inr (.inl ⟨rfl, show (1 : Int) ≤ 17 from by decide, show (17 : Int) ≤ 18 from by decide⟩), ⟨I64_0, I64_0, I64_0, hn, fun x hx => by simp [n1] at hx⟩, rfl⟩
  · exact ⟨.inr (.inl ⟨rfl, show (1 : Int) ≤ 12 from by decide, show (12 : Int) ≤ 18 from by decide⟩), ⟨I64_0, I64_0, hs, I64_0, fun x hx => by simp [n2] at hx⟩, rfl⟩
  · exact ⟨.inl rfl, ⟨hn, hs, I64_0, I64_0, fun x hx => by simp [n3, z34] at hx⟩, rfl⟩
theorem n_lens (n s : Int) (hn : I64 n) (hs : I64 s) : ∀ c ∈ n123 n s, (lineT c).length ≤ 100 := by
  have i1 := Lib.itoa_length_le n hn.1 hn.2
  have i2 := Lib.itoa_length_le s hs.1 hs.2
  intro c hc
  simp only [n123, List.mem_cons, List.not_mem_nil, or_false] at hc
  rcases hc with rfl | rfl | rfl
  · rw [ln1, tokens_cons, tokens_one, tokT_wP, tokT_wP]
    simp [bFall]; omega
  · have := ln2 s; omega
  · show ([119, 111, 114, 108, 100, 32] ++ Lib.itoa n ++ [32] ++ Lib.itoa s).length ≤ 100
    simp; omega
theorem n_text (n s : Int) (hn : I64 n) (hs : I64 s) : (textT (n123 n s)).length ≤ 400 := by
  have h := n_lens n s hn hs
  have h1 := h (n1 n) (by simp [n123])
  have h2 := h (n2 s) (by simp [n123])
  have h3 := h (n3 n s) (by simp [n123])
  unfold textT n123
  simp only [List.flatMap_cons, List.flatMap_nil, List.length_append, List.length_cons, List.length_nil]
  omega
theorem n_long (n s : Int) (hn : I64 n) (hs : I64 s) : longV (textT (n123 n s)) = false := by
  rw [longV_text _ (fun c hc => (n_facts n s hn hs c hc).1)]
  have ht := n_text n s hn hs
  have h := n_lens n s hn hs
  rw [Bool.or_eq_false_iff, Bool.or_eq_false_iff]
  refine ⟨decide_eq_false (by omega), ?_, rfl⟩
  rw [List.any_eq_false]
  intro x hx
  obtain ⟨c, hc, rfl⟩ := List.mem_map.1 hx
  have := h c hc
  simpa using (by omega : (lineT c).length ≤ 8192)
theorem n_print (n s : Int) (hn : I64 n) (hs : I64 s) : PrintOK (n123 n s) := by
  refine ⟨fun c hc => ?_, by have := n_text n s hn hs; omega⟩
  obtain ⟨_, ⟨i1, i2, i3, i4, i5⟩, _⟩ := n_facts n s hn hs c hc
  exact ⟨i1, i2, i3, i4, i5, by have := n_lens n s hn hs c hc; omega⟩
theorem n_printV (n s : Int) (hn : I64 n) (hs : I64 s) : printV (n123 n s) = (textT (n123 n s), 0) := by
  rw [printV_ok _ (fun c hc => (n_facts n s hn hs c hc).1), n_long n s hn hs, if_neg (by simp)]
theorem n_parse (n s : Int) (hn : I64 n) (hs : I64 s) : parseV (textT (n123 n s)) = (n123 n s, 0) := by
  rw [parse_text _ (fun c hc => ⟨(n_facts n s hn hs c hc).1, (n_facts n s hn hs c hc).2.1⟩) (n_long n s hn hs)]
  have e : (n123 n s).map clearC = n123 n s := by
    conv => rhs; rw [← List.map_id (n123 n s)]
    exact List.map_congr_left (fun c hc => (n_facts n s hn hs c hc).2.2)
  rw [e]
def ten (d : List UInt8) : List (List UInt8) := [bFall ++ 32 :: 48 :: d, bFall ++ 32 :: 43 :: d, bFall ++ 32 :: 32 :: d, bFall ++ 32 :: (d ++ [32]), bFall ++ 32 :: 34 :: (d ++ [34]), bFall, bFall ++ 32 :: (d ++ 32 :: d),
  bFall ++ 32 :: [57, 50, 50, 51, 51, 55, 50, 48, 51, 54, 56, 53, 52, 55, 55, 53, 56, 48, 56], bFall ++ 32 :: 45 :: [57, 50, 50, 51, 51, 55, 50, 48, 51, 54, 56, 53, 52, 55, 55, 53, 56, 48, 57], bFall ++ 32 :: [45, 48]]
theorem bad_line (s : List UInt8) (h : ∀ c ∈ s, c ≠ 10) (h0 : s.head? = some 102) (hl : s.length ≤ 8192) (hb : (lineV s).2 = false) : parseV s = ([], 110) := by
  rw [parse_one h (fun e => by subst e; simp at h0) (by rw [h0]; decide) hl, if_neg (by rw [hb]; simp)]
theorem itoa_no (n : Int) (c : UInt8) (h : c ∈ Lib.itoa n) : c ≠ 10 ∧ c ≠ 32 ∧ c ≠ 34 ∧ c ≠ 43 := by
  rcases itoa_mem h with rfl | h
  · decide
  · refine ⟨?_, ?_, ?_, ?_⟩ <;> (intro e; subst e; simp at h)
theorem words_bad (n : Nat) (b : List UInt8) (hb : ∃ c r, b = c :: r ∧ c = 32) : wordsL (n + 1) b = ([], false) := by
  obtain ⟨c, r, rfl, rfl⟩ := hb
  rw [wordsL, if_neg (by rw [List.head?_cons]; decide)]
  rw [show (32 :: r).takeWhile notSp = [] from by rw [List.takeWhile_cons, if_neg (by decide)], if_pos rfl]
theorem lineV_bad (s : List UInt8) (h : (wordsV s).2 = false) : (lineV s).2 = false := by
  unfold lineV
  rw [h]
  rfl
theorem ten_bad (n : Int) (hn : I64 n) : ∀ x ∈ ten (Lib.itoa n), parseV x = ([], 110) := by
  have hd := itoa_no n
  have hne := itoa_ne n
  have hlen := Lib.itoa_length_le n hn.1 hn.2
  have hw := words_step
  generalize hD : Lib.itoa n = d at hd hne hlen
  have tokd : TokOK (wP d) := by rw [← hD]; exact ok_num n
  intro x hx
  simp only [ten, List.mem_cons, List.not_mem_nil, or_false] at hx
  have m10 : ∀ c ∈ d, c ≠ 10 := fun c h => (hd c h).1
  have m32 : ∀ c ∈ d, c ≠ 32 := fun c h => (hd c h).2.1
  have hcons : ∀ (a : UInt8) (l : List UInt8) (P : UInt8 → Prop), P a → (∀ c ∈ l, P c) → ∀ c ∈ a :: l, P c := fun a l P h1 h2 c hc => by
    rcases List.mem_cons.1 hc with rfl | hc
    · exact h1
    · exact h2 c hc
  have happ : ∀ (a l : List UInt8) (P : UInt8 → Prop), (∀ c ∈ a, P c) → (∀ c ∈ l, P c) → ∀ c ∈ a ++ l, P c := fun a l P h1 h2 c hc => by
    rcases List.mem_append.1 hc with hc | hc
    · exact h1 c hc
    · exact h2 c hc
  have bF : ∀ c ∈ bFall, c ≠ 10 := by decide
  have hFl : bFall.length = 4 := rfl
  rcases hx with rfl | rfl | rfl | rfl | rfl | rfl | rfl | rfl | rfl | rfl
  · refine bad_line _ (happ _ _ _ bF (hcons _ _ _ (by decide) (hcons _ _ _ (by decide) m10))) rfl (by simp [hFl]; omega) ?_
    exact fall_bad (48 :: d) (hcons _ _ _ (by decide) m32) (by simp) (by rw [List.head?_cons]; decide) (fun m _ e => hne (itoa_zero_head e.symm))
  · refine bad_line _ (happ _ _ _ bF (hcons _ _ _ (by decide) (hcons _ _ _ (by decide) m10))) rfl (by simp [hFl]; omega) ?_
    exact fall_bad (43 :: d) (hcons _ _ _ (by decide) m32) (by simp) (by rw [List.head?_cons]; decide) (fun m _ e => (itoa_no m 43 (by rw [← e]; exact List.mem_cons_self)).2.2.2 rfl)
  · refine bad_line _ (happ _ _ _ bF (hcons _ _ _ (by decide) (hcons _ _ _ (by decide) m10))) rfl (by simp [hFl]; omega) (lineV_bad _ ?_)
    unfold wordsV
    rw [words_fall, show (bFall ++ 32 :: 32 :: d).length = (d.length + 5) + 1 from by simp only [List.length_append, List.length_cons, hFl]; omega, words_bad _ _ ⟨32, d, rfl, rfl⟩, if_neg (by simp)]
  · refine bad_line _ (happ _ _ _ bF (hcons _ _ _ (by decide) (happ _ _ _ m10 (by decide)))) rfl (by simp [hFl]; omega) (lineV_bad _ ?_)
    unfold wordsV
    have h1 := words_step (d.length + 5) (wP d) tokd [32] (.inr ⟨_, rfl⟩)
    rw [tokT_wP] at h1
    have hL : (bFall ++ 32 :: (d ++ [32]) : List UInt8).length = (d.length + 5) + 1 := by simp only [List.length_append, List.length_cons, List.length_nil, hFl]; omega
    rw [words_fall, hL, h1, aftW, if_pos rfl]
    rw [show wordsL (d.length + 5) [] = ([], false) from by rw [wordsL]; rfl, if_neg (by simp)]
  · refine bad_line _ (happ _ _ _ bF (hcons _ _ _ (by decide) (hcons _ _ _ (by decide) (happ _ _ _ m10 (by decide))))) rfl (by simp [hFl]; omega) ?_
    have hq : 34 :: (d ++ [34]) = tokT (wQ (bs d)) := by
      rw [tokT_wQ, quoteL, bs_data]
      have : d.flatMap quoteB = d := by
        have hb : ∀ l : List UInt8, (∀ c ∈ l, quoteB c = [c]) → l.flatMap quoteB = l := by
          intro l
          induction l with
          | nil => intro _; rfl
          | cons c l ih => intro h; rw [List.flatMap_cons, h c List.mem_cons_self, ih (fun x hx => h x (List.mem_cons_of_mem _ hx))]; rfl
        refine hb d (fun c hc => ?_)
        rw [← hD] at hc
        unfold quoteB
        rcases itoa_mem hc with rfl | h
        · decide
        · rw [if_neg (by rintro (rfl | rfl) <;> simp at h), if_neg (by omega)]
      rw [this]
    have hwv : wordsV (bFall ++ 32 :: 34 :: (d ++ [34])) = (wP bFall :: [wQ (bs d)], true) := by
      have := wordsV_tokens [wP bFall, wQ (bs d)] (by simp) (fun y hy => by
        simp only [List.mem_cons, List.not_mem_nil, or_false] at hy
        rcases hy with rfl | rfl
        · exact ok_wd (by decide) (by decide)
        · exact ok_wQ _)
      rw [tokens_cons, tokens_one, tokT_wP, ← hq] at this
      exact this
    rw [fall_line _ _ hwv]
    rfl
  · refine bad_line _ bF rfl (by decide) ?_
    have hwv : wordsV bFall = (wP bFall :: [], true) := by
      have := wordsV_tokens [wP bFall] (by simp) (fun y hy => by rw [List.mem_singleton] at hy; subst hy; exact ok_wd (by decide) (by decide))
      rwa [tokens_one, tokT_wP] at this
    rw [fall_line _ _ hwv]
    rfl
  · refine bad_line _ (happ _ _ _ bF (hcons _ _ _ (by decide) (happ _ _ _ m10 (hcons _ _ _ (by decide) m10)))) rfl (by simp [hFl]; omega) ?_
    have hwv : wordsV (bFall ++ 32 :: (d ++ 32 :: d)) = (wP bFall :: [wP d, wP d], true) := by
      have := wordsV_tokens [wP bFall, wP d, wP d] (by simp) (fun y hy => by
        simp only [List.mem_cons, List.not_mem_nil, or_false] at hy
        rcases hy with rfl | rfl | rfl
        · exact ok_wd (by decide) (by decide)
        · exact tokd
        · exact tokd)
      rw [tokens_cons, tokens_cons, tokens_one, tokT_wP, tokT_wP] at this
      exact this
    rw [fall_line _ _ hwv, ← hD, numN_wP hn]
    rfl
  · refine bad_line _ (by decide) rfl (by decide) ?_
    refine fall_bad _ (by decide) (by simp) (by decide) (fun m hm e => ?_)
    rw [← dec_2_63, show Lib.decDigits 9223372036854775808 = Lib.itoa ((9223372036854775808 : Nat) : Int) from (Lib.itoa_nonneg _).symm] at e
    have := itoa_inj e
    unfold I64 at hm; omega
  · refine bad_line _ (by decide) rfl (by decide) ?_
    refine fall_bad _ (by decide) (by simp) (by decide) (fun m hm e => ?_)
    rw [← dec_2_63_1, show 45 :: Lib.decDigits 9223372036854775809 = Lib.itoa (-((9223372036854775809 : Nat) : Int)) from (Lib.itoa_neg _ (by omega)).symm] at e
    have := itoa_inj e
    unfold I64 at hm; omega
  · refine bad_line _ (by decide) rfl (by decide) ?_
    refine fall_bad _ (by decide) (by simp) (by decide) (fun m hm e => ?_)
    unfold Lib.itoa at e
    split at e
    · simp only [List.cons.injEq, true_and] at e
      have : valD [48] = m.natAbs := by rw [e, valD_dec]
      have h0 : valD [48] = 0 := rfl
      omega
    · have hmm := decDigits_mem m.toNat 45 (by rw [← e]; exact List.mem_cons_self)
      simp at hmm
end Go.Proofs.YtdmlgligljagoaaDoor

set_option linter.unusedVariables false
set_option linter.unusedSimpArgs false
namespace Go.Proofs.YtdmlgligljagoaaDoor
open Go.RowKit Go.Proofs.YtdmlgligljagoaaDoorW.PrintWords PS

/-- a literal row is a row of the call's own -/
theorem R_new_lit {α : Type} (d : Kd α) (W : World) (e : Nat) {xs : List α} {inner : List Value} {okp : Nat → Prop} (hrep : Reps (d.M W W.heap.size okp) d.sz xs inner) (hm : xs.length ≤ 9223372036854775807) :
    d.R e (W.alloc (.cells inner.toArray e)) W.heap.size (fun _ => True) (.slice (some ⟨W.heap.size, 0, none⟩) xs.length xs.length) xs := by
  refine ⟨fun _ _ => trivial, inner, ?_, ?_⟩
  · have h2 := World.ownsRow_lit (base := W.heap.size) (e := e) (size := d.sz) W inner.toArray xs.length (Nat.le_refl _) (by simpa [maxLen] using hm) (by simpa using hrep.1)
    simpa using h2
  · refine hrep.imp_ (fun p c hp => d.M_mono (fun k hk => ⟨trivial, fun he => ?_⟩) (Kd.M_below (d.M_bound hp) (below_alloc (Below.refl _ _) _)))
    have h3 : k = W.heap.size := by simpa [Value.ownBlock] using he
    have := hk.2.2.1
    omega
theorem C_new_lit {α : Type} (d : Kd α) (W : World) (e : Nat) {xs : List α} {inner : List Value} {okp : Nat → Prop} (hrep : Reps (d.M W W.heap.size okp) d.sz xs inner) (hm : xs.length ≤ 9223372036854775807) :
    d.C (W.alloc (.cells inner.toArray e)) (some ⟨W.heap.size, 0, none⟩) xs.length xs := by
  obtain ⟨A, c, e1, _, h⟩ := Kd.R_reads (R_new_lit d W e hrep hm)
  cases e1
  exact h
theorem n123_reps (n s : Int) (W : World) : Reps (Kd.M k36 W W.heap.size (fun _ => True)) 12 (n123 n s) [.int .i64 2, .int .i64 0, .int .i64 0, .int .i64 17, .string ⟨#[]⟩, .string ⟨#[]⟩, .string ⟨#[]⟩, .slice none 0 0, .int .i64 0, .int .i64 n, .slice none 0 0, .string ⟨#[]⟩,
    .int .i64 2, .int .i64 0, .int .i64 0, .int .i64 12, .string ⟨#[]⟩, .string ⟨#[]⟩, .string ⟨#[]⟩, .slice none 0 0, .int .i64 s, .int .i64 0, .slice none 0 0, .string ⟨#[]⟩,
    .int .i64 1, .int .i64 n, .int .i64 s, .int .i64 0, .string ⟨#[]⟩, .string ⟨#[]⟩, .string ⟨#[]⟩, .slice none 0 0, .int .i64 0, .int .i64 0, .slice none 0 0, .string ⟨#[]⟩] := by
  refine Reps.front (k36_mkM W W.heap.size _ (n1 n) (v7 := .slice none 0 0) (v10 := .slice none 0 0) (Kd.R_nil _ _ _ _ _) (Kd.R_nil _ _ _ _ _)) rfl ?_ rfl
  refine Reps.front (k36_mkM W W.heap.size _ (n2 s) (v7 := .slice none 0 0) (v10 := .slice none 0 0) (Kd.R_nil _ _ _ _ _) (Kd.R_nil _ _ _ _ _)) rfl ?_ rfl
  refine Reps.front (k36_mkM W W.heap.size _ (n3 n s) (v7 := .slice none 0 0) (v10 := .slice none 0 0) (Kd.R_nil _ _ _ _ _) (Kd.R_nil _ _ _ _ _)) rfl (Reps.none _ _) rfl
attribute [local go_sem] bs_size bs_append bs_toList
theorem idx0 (x0 x1 x2 x3 x4 x5 x6 x7 x8 x9 : Value) (W : World) : (Instr.index 53 (.agg #[x0, x1, x2, x3, x4, x5, x6, x7, x8, x9]) (.int .i64 0)).run Tryd.prog W = .ok x0 W := by kernel_rfl
theorem idx1 (x0 x1 x2 x3 x4 x5 x6 x7 x8 x9 : Value) (W : World) : (Instr.index 53 (.agg #[x0, x1, x2, x3, x4, x5, x6, x7, x8, x9]) (.int .i64 1)).run Tryd.prog W = .ok x1 W := by kernel_rfl
theorem idx2 (x0 x1 x2 x3 x4 x5 x6 x7 x8 x9 : Value) (W : World) : (Instr.index 53 (.agg #[x0, x1, x2, x3, x4, x5, x6, x7, x8, x9]) (.int .i64 2)).run Tryd.prog W = .ok x2 W := by kernel_rfl
theorem idx3 (x0 x1 x2 x3 x4 x5 x6 x7 x8 x9 : Value) (W : World) : (Instr.index 53 (.agg #[x0, x1, x2, x3, x4, x5, x6, x7, x8, x9]) (.int .i64 3)).run Tryd.prog W = .ok x3 W := by kernel_rfl
theorem idx4 (x0 x1 x2 x3 x4 x5 x6 x7 x8 x9 : Value) (W : World) : (Instr.index 53 (.agg #[x0, x1, x2, x3, x4, x5, x6, x7, x8, x9]) (.int .i64 4)).run Tryd.prog W = .ok x4 W := by kernel_rfl
theorem idx5 (x0 x1 x2 x3 x4 x5 x6 x7 x8 x9 : Value) (W : World) : (Instr.index 53 (.agg #[x0, x1, x2, x3, x4, x5, x6, x7, x8, x9]) (.int .i64 5)).run Tryd.prog W = .ok x5 W := by kernel_rfl
theorem idx6 (x0 x1 x2 x3 x4 x5 x6 x7 x8 x9 : Value) (W : World) : (Instr.index 53 (.agg #[x0, x1, x2, x3, x4, x5, x6, x7, x8, x9]) (.int .i64 6)).run Tryd.prog W = .ok x6 W := by kernel_rfl
theorem idx7 (x0 x1 x2 x3 x4 x5 x6 x7 x8 x9 : Value) (W : World) : (Instr.index 53 (.agg #[x0, x1, x2, x3, x4, x5, x6, x7, x8, x9]) (.int .i64 7)).run Tryd.prog W = .ok x7 W := by kernel_rfl
theorem idx8 (x0 x1 x2 x3 x4 x5 x6 x7 x8 x9 : Value) (W : World) : (Instr.index 53 (.agg #[x0, x1, x2, x3, x4, x5, x6, x7, x8, x9]) (.int .i64 8)).run Tryd.prog W = .ok x8 W := by kernel_rfl
theorem idx9 (x0 x1 x2 x3 x4 x5 x6 x7 x8 x9 : Value) (W : World) : (Instr.index 53 (.agg #[x0, x1, x2, x3, x4, x5, x6, x7, x8, x9]) (.int .i64 9)).run Tryd.prog W = .ok x9 W := by kernel_rfl
theorem ten_idx (d : List UInt8) (i : Nat) (hi : i < 10) : ∃ x : List UInt8, x ∈ ten d ∧ ∀ W, (Instr.index 53 (.agg #[.string ((⟨#[102, 97, 108, 108, 32, 48]⟩ : ByteArray) ++ bs d), .string ((⟨#[102, 97, 108, 108, 32, 43]⟩ : ByteArray) ++ bs d), .string ((⟨#[102, 97, 108, 108, 32, 32]⟩ : ByteArray) ++ bs d), .string ((⟨#[102, 97, 108, 108, 32]⟩ : ByteArray) ++ bs d ++ (⟨#[32]⟩ : ByteArray)), .string ((⟨#[102, 97, 108, 108, 32, 34]⟩ : ByteArray) ++ bs d ++ (⟨#[34]⟩ : ByteArray)), .string (⟨#[102, 97, 108, 108]⟩ : ByteArray), .string ((⟨#[102, 97, 108, 108, 32]⟩ : ByteArray) ++ bs d ++ (⟨#[32]⟩ : ByteArray) ++ bs d), .string (⟨#[102, 97, 108, 108, 32, 57, 50, 50, 51, 51, 55, 50, 48, 51, 54, 56, 53, 52, 55, 55, 53, 56, 48, 56]⟩ : ByteArray), .string (⟨#[102, 97, 108, 108, 32, 45, 57, 50, 50, 51, 51, 55, 50, 48, 51, 54, 56, 53, 52, 55, 55, 53, 56, 48, 57]⟩ : ByteArray), .string (⟨#[102, 97, 108, 108, 32, 45, 48]⟩ : ByteArray)]) (.int .i64 (i : Int))).run Tryd.prog W = .ok (.string (bs x)) W := by
  match i, hi with
  | 0, _ =>
    refine ⟨(ten d)[0], List.getElem_mem (by decide : 0 < 10), fun W => (idx0 _ _ _ _ _ _ _ _ _ _ W).trans ?_⟩
    have e : (bs [102, 97, 108, 108, 32, 48] ++ bs d) = bs ((ten d)[0]) := by
      rw [bs_append]
      simp [ten, bFall]
    exact congrArg (fun z => Result.ok (Value.string z) W) e
  | 1, _ =>
    refine ⟨(ten d)[1], List.getElem_mem (by decide : 1 < 10), fun W => (idx1 _ _ _ _ _ _ _ _ _ _ W).trans ?_⟩
    have e : (bs [102, 97, 108, 108, 32, 43] ++ bs d) = bs ((ten d)[1]) := by
      rw [bs_append]
      simp [ten, bFall]
    exact congrArg (fun z => Result.ok (Value.string z) W) e
  | 2, _ =>
    refine ⟨(ten d)[2], List.getElem_mem (by decide : 2 < 10), fun W => (idx2 _ _ _ _ _ _ _ _ _ _ W).trans ?_⟩
    have e : (bs [102, 97, 108, 108, 32, 32] ++ bs d) = bs ((ten d)[2]) := by
      rw [bs_append]
      simp [ten, bFall]
    exact congrArg (fun z => Result.ok (Value.string z) W) e
  | 3, _ =>
    refine ⟨(ten d)[3], List.getElem_mem (by decide : 3 < 10), fun W => (idx3 _ _ _ _ _ _ _ _ _ _ W).trans ?_⟩
    have e : (bs [102, 97, 108, 108, 32] ++ bs d ++ bs [32]) = bs ((ten d)[3]) := by
      rw [bs_append, bs_append]
      simp [ten, bFall]
    exact congrArg (fun z => Result.ok (Value.string z) W) e
  | 4, _ =>
    refine ⟨(ten d)[4], List.getElem_mem (by decide : 4 < 10), fun W => (idx4 _ _ _ _ _ _ _ _ _ _ W).trans ?_⟩
    have e : (bs [102, 97, 108, 108, 32, 34] ++ bs d ++ bs [34]) = bs ((ten d)[4]) := by
      rw [bs_append, bs_append]
      simp [ten, bFall]
    exact congrArg (fun z => Result.ok (Value.string z) W) e
  | 5, _ => exact ⟨(ten d)[5], List.getElem_mem (by decide : 5 < 10), fun W => idx5 _ _ _ _ _ _ _ _ _ _ W⟩
  | 6, _ =>
    refine ⟨(ten d)[6], List.getElem_mem (by decide : 6 < 10), fun W => (idx6 _ _ _ _ _ _ _ _ _ _ W).trans ?_⟩
    have e : (bs [102, 97, 108, 108, 32] ++ bs d ++ bs [32] ++ bs d) = bs ((ten d)[6]) := by
      rw [bs_append, bs_append, bs_append]
      simp [ten, bFall]
    exact congrArg (fun z => Result.ok (Value.string z) W) e
  | 7, _ => exact ⟨(ten d)[7], List.getElem_mem (by decide : 7 < 10), fun W => idx7 _ _ _ _ _ _ _ _ _ _ W⟩
  | 8, _ => exact ⟨(ten d)[8], List.getElem_mem (by decide : 8 < 10), fun W => idx8 _ _ _ _ _ _ _ _ _ _ W⟩
  | 9, _ => exact ⟨(ten d)[9], List.getElem_mem (by decide : 9 < 10), fun W => idx9 _ _ _ _ _ _ _ _ _ _ W⟩
set_option maxRecDepth 100000 in
set_option maxHeartbeats 4000000 in
theorem scriptNumbers_any (n s : Int) (hn : I64 n) (hs : I64 s) (w : World) (hT : Tab w)
    (hP : PrintOK (n123 n s)) (hV : printV (n123 n s) = (textT (n123 n s), 0)) (hR : parseV (textT (n123 n s)) = (n123 n s, 0)) (hX : ∀ x ∈ ten (Lib.itoa n), parseV x = ([], 110)) :
    Calls Tryd.prog 7 #[.int .i64 n, .int .i64 s] w fun e w' => e = .returned (.bool true) ∧ Below w.heap.size w w' := by
  obtain ⟨kf, hkf⟩ := first_is
  have HF := Lib.hid (cofferlaw22_first.calls kf true w hT hkf)
  have HT := Lib.hid hT
  have HP := Lib.hid hP
  have HV := Lib.hid hV
  have HX := Lib.hid hX
  obtain ⟨kp, hkp⟩ := parse_is (textT (n123 n s))
  rw [hR] at hkp
  have HK := Lib.hid hkp
  obtain ⟨hn0, hn1⟩ := hn
  obtain ⟨hs0, hs1⟩ := hs
  clear hT hP hV hX hkp hkf hR
  go_enter Tryd.func7, Tryd.ntmps7
  go_wp2_with fail
  refine HF.out.mono ?_
  rintro e w1 ⟨rfl, hb1⟩
  have HB1 := Lib.hid hb1
  clear hb1
  go_wp2_with fail
  have hrow := C_new_lit k36 w1 36 (n123_reps n s w1) (show 3 ≤ 9223372036854775807 by decide)
  have hb2' := (HB1.out).trans (((Below.refl w1.heap.size w1).alloc (Nat.le_refl _) (.cells #[.int .i64 2, .int .i64 0, .int .i64 0, .int .i64 17, .string ⟨#[]⟩, .string ⟨#[]⟩, .string ⟨#[]⟩, .slice none 0 0, .int .i64 0, .int .i64 n, .slice none 0 0, .string ⟨#[]⟩,
    .int .i64 2, .int .i64 0, .int .i64 0, .int .i64 12, .string ⟨#[]⟩, .string ⟨#[]⟩, .string ⟨#[]⟩, .slice none 0 0, .int .i64 s, .int .i64 0, .slice none 0 0, .string ⟨#[]⟩,
    .int .i64 1, .int .i64 n, .int .i64 s, .int .i64 0, .string ⟨#[]⟩, .string ⟨#[]⟩, .string ⟨#[]⟩, .slice none 0 0, .int .i64 0, .int .i64 0, .slice none 0 0, .string ⟨#[]⟩] 36)).mono HB1.out.size)
  have HC := Lib.hid (print_any (n123 n s) (some ⟨w1.heap.size, 0, none⟩) 3 _ hrow (Nat.le_refl 3) (tab_below HT.out hb2') HP.out)
  have HB2 := Lib.hid hb2'
  clear hrow hb2'
  refine HC.out.mono ?_
  rintro e w2 ⟨rfl, hb2⟩
  have HB3 := Lib.hid (HB2.out.trans (hb2.mono HB2.out.size))
  clear hb2
  rw [HV.out]
  dsimp only
  go_wp2_with fail
  refine (script_Parse.calls kp (bs (textT (n123 n s))) (n123 n s) 0 w2 (tab_below HT.out HB3.out) HK.out).mono ?_
  rintro e w3 ⟨v3, rfl, hS, hb3⟩
  have HB4 := Lib.hid (HB3.out.trans (hb3.mono HB3.out.size))
  obtain ⟨g, cp, rfl, _⟩ := Kd.S_form hS (show 0 < 3 by decide)
  obtain ⟨_, _, hC⟩ := Kd.S_reads' hS
  obtain ⟨ad, A7, c7, A10, c10, hA, a0, a1, a2, a3, a4, a5, a6, a7, a8, a9, a10, a11, _⟩ := at_T36 hC 0 (by decide) (show (0 : Int) < 3 by decide)
  obtain ⟨bd, B7, d7, B10, d10, hB, e0, e1, e2, e3, e4, e5, e6, e7, e8, e9, e10, e11, _⟩ := at_T36 hC 1 (by decide) (show (1 : Int) < 3 by decide)
  obtain ⟨cd, C7, f7, C10, f10, hCc, h0, h1, h2, h3, h4, h5, h6, h7, h8, h9, h10, h11, _⟩ := at_T36 hC 2 (by decide) (show (2 : Int) < 3 by decide)
  cases hA
  cases hB
  cases hCc
  have q1 : w3.cell? ⟨g, 9, none⟩ = some (.int .i64 n) := a9
  have q2 : w3.cell? ⟨g, 20, none⟩ = some (.int .i64 s) := e8
  have q3 : w3.cell? ⟨g, 25, none⟩ = some (.int .i64 n) := h1
  have q4 : w3.cell? ⟨g, 26, none⟩ = some (.int .i64 s) := h2
  have HI := Lib.hid (itoa_is (n := n) ⟨hn0, hn1⟩)
  have hlen := Lib.itoa_length_le n hn0 hn1
  clear hS hb3 hC a0 a1 a2 a3 a4 a5 a6 a7 a8 a9 a10 a11 e0 e1 e2 e3 e4 e5 e6 e7 e8 e9 e10 e11 h0 h1 h2 h3 h4 h5 h6 h7 h8 h9 h10 h11
  go_wp2_with fail
  refine (strconv_Itoa.calls n (bs (Lib.itoa n)) w3 (tab_below HT.out HB4.out) HI.out).mono ?_
  rintro e w4 ⟨rfl, hb4⟩
  have HB5 := Lib.hid (HB4.out.trans (hb4.mono HB4.out.size))
  clear hb4 q1 q2 q3 q4
  generalize Lib.itoa n = d at *
  go_wp2_with fail
  go_loopg [100] 10 (fun gk u100 wx => ∃ i : Nat, i + gk = 10 ∧ u100 = .int .i64 (i : Int) ∧ Hid (Below w.heap.size w wx))
  case atStart => exact ⟨0, rfl, rfl, HB5⟩
  case round =>
    obtain ⟨i, hig, rfl, HBx⟩ := hrel
    cases gk with
    | zero =>
      obtain rfl : i = 10 := by omega
      go_wp2
      go_ret
      exact ⟨rfl, HBx.out⟩
    | succ go =>
      have hi : i < 10 := by omega
      obtain ⟨x, hx, hidx⟩ := ten_idx d i hi
      obtain ⟨kx, hkx⟩ := parse_is x
      rw [HX.out x hx] at hkx
      have HKx := Lib.hid hkx
      clear hkx hx
      have b1 : decide ((i : Int) < 10) = true := by simp; omega
      go_wp2_with fail
      refine (script_Parse.calls kx (bs x) [] 110 wr (tab_below HT.out HBx.out) HKx.out).mono ?_
      rintro e w6 ⟨v6, rfl, _, hb6⟩
      have HB6 := Lib.hid (HBx.out.trans (hb6.mono HBx.out.size))
      clear hb6 hidx
      go_wp2
      go_roundg go
      case measure => omega
      case rel => exact ⟨i + 1, by omega, by go_num, HB6⟩
theorem scriptNumbers_law (n s : Int) (hn : I64 n) (hs : I64 s) (w : World) (hT : Tab w) :
    Calls Tryd.prog 7 #[.int .i64 n, .int .i64 s] w fun e w' => e = .returned (.bool true) ∧ Below w.heap.size w w' :=
  scriptNumbers_any n s hn hs w hT (n_print n s hn hs) (n_printV n s hn hs) (n_parse n s hn hs) (ten_bad n hn)
end Go.Proofs.YtdmlgligljagoaaDoor

set_option linter.unusedVariables false
set_option linter.unusedSimpArgs false
namespace Go.Proofs.YtdmlgligljagoaaDoor
open Go.RowKit

theorem I64_of_wf {n : Int} (h : (Lit.int .i64 n).wf = true) : I64 n := by
  simp only [Lit.wf, IntKind.min, IntKind.max, IntKind.signed, IntKind.bits, Bool.and_eq_true, decide_eq_true_eq, if_true] at h
  unfold I64
  obtain ⟨h1, h2⟩ := h
  exact ⟨by simpa using h1, by have := h2; simp at this; omega⟩
end Go.Proofs.YtdmlgligljagoaaDoor

set_option linter.unusedVariables false
set_option linter.unusedSimpArgs false
namespace Go.Proofs.YtdmlgligljagoaaDoor
open Go.ChangeShapes Go.WideShapes Go.ChangeAt Go.RowKit
theorem own : ownKnob Tryd.prog.godebug = none := by kernel_rfl
theorem laidOut : laidOutB Tryd.prog = true := by kernel_rfl
theorem trodAll_below {H : Type} {enc : TypeId × Value → H} {W W' : World} (hb : Below W.heap.size W W') : ∀ (ts : List TypeId) (vs : List Value) (ds : List (DataW H)) (ps : List MemPlace),
    (∀ t ∈ ts, Tryd.prog.readableRec t = true ∧ t < Tryd.prog.types.size) → DataW.TrodAll enc Tryd.prog W 0 (fun _ => true) true ts vs ds ps → (∀ x ∈ ps, x.block < W.heap.size) →
    DataW.TrodAll enc Tryd.prog W' 0 (fun b => decide (b < W.heap.size)) true ts vs ds ps
  | [], [], [], _, _, h, _ => h
  | t :: ts, v :: vs, d :: ds, ps, hr, ⟨p, q, h1, h2, e⟩, hlt => by
    subst e
    have ht := hr t List.mem_cons_self
    exact ⟨p, q, Below.trod laidOut ht.1 ht.2 h1 hb (fun x hx => hlt x (List.mem_append_left _ hx)), trodAll_below hb ts vs ds q (fun x hx => hr x (List.mem_cons_of_mem _ hx)) h2 (fun x hx => hlt x (List.mem_append_right _ hx)), rfl⟩
  | [], _ :: _, _, _, _, h, _ => h.elim
  | [], [], _ :: _, _, _, h, _ => h.elim
  | _ :: _, [], _, _, _, h, _ => h.elim
  | _ :: _, _ :: _, [], _, _, h, _ => h.elim
theorem law_post {H : Type} {enc : TypeId × Value → H} {s : ChangeSpec} {f : Func} {apart fresh handsOn : Bool} {W W' : World} {args : Array Value} {ds gs : List (DataW H)} {before : List MemPlace} {tb : TypeId}
    (hvars : s.vars = []) (hr : ∀ t ∈ f.params.toList, Tryd.prog.readableRec t = true ∧ t < Tryd.prog.types.size) (hres : f.resultTypes = #[tb]) (hbool : Tryd.prog.underlying tb = some .bool)
    (hfn : (s.fn H (ds ++ gs)).results = [.lit (.bool true)] ∧ (s.fn H (ds ++ gs)).args = ds ∧ (s.fn H (ds ++ gs)).vars = [])
    (hW : DataW.Whole enc Tryd.prog f.params.toList s.vars apart W args.toList ds gs before) (hb : Below W.heap.size W W') :
    s.post enc Tryd.prog f apart fresh handsOn false W args (.bool true) W' := by
  have hW' := hW
  have hlt := hW.lt
  obtain ⟨p, q, hA, hV, rfl, hfz, hnd⟩ := hW
  refine ⟨ds, gs, _, [], p, [], hW', ?_, ?_, ?_, hb.frame _, fun h => by cases h⟩
  · rw [hfn.1, hres]
    exact trodAll_mk1 (shut_bool hbool true)
  · rw [hfn.2.1]
    exact trodAll_below hb _ _ _ _ hr hA (fun x hx => hlt x (List.mem_append_left _ hx))
  · rw [hfn.2.2, hvars]
    rfl
theorem tab_of_vars {P : Program} {W : World} {name : String} {k : IntKind} {zs : List Int} {rest : List (String × DataW Unit)} {ps : List MemPlace} {g : Nat} {t e : TypeId} {n : Nat}
    (hg : P.globalNamed name = some g) (hty : (P.globals[g]?).map (·.type) = some t) (ht : P.underlying t = some (.array n e)) (he : P.underlying e = some (.int k)) (hce : P.cellsOf e = 1) (hct : P.cellsOf t = n)
    (h : DataW.LaidVars P W ((name, Lib.tabData k zs) :: rest) ps) : Lib.TabIs P W name k zs := by
  obtain ⟨g', t', cs, fuel, p, q, hg', ht', hvar, hd, _⟩ := h
  obtain rfl := Option.some.inj (hg.symm.trans hg')
  obtain rfl := Option.some.inj (hty.symm.trans ht')
  unfold Lib.TabIs
  rw [hvar, ← Lib.cells_of_tab ht he hce hct hd]
end Go.Proofs.YtdmlgligljagoaaDoor

namespace Go.Proofs.YtdmlgligljagoaaDoor.lawScriptNumbers
open Go.ChangeShapes Go.WideShapes Go.ChangeAt Go.RowKit
open Go.ChangeMaps (open_string shut_string)
set_option linter.unusedVariables false
set_option linter.unusedSimpArgs false
noncomputable def leafs : DataW Unit → List Value
  | .lit (.int k n) => [Value.int k n]
  | .agg l => l.map fun d => match d with
    | .lit (.int k n) => Value.int k n
    | _ => undef
  | _ => [undef]
noncomputable def toCells : DataW Unit → Array Value
  | .agg l => (l.flatMap leafs).toArray
  | _ => #[]
noncomputable def setTab (h : Array Obj) (x : String × DataW Unit) : Array Obj := h.modify ((Tryd.prog.globalNamed x.1).getD 0) fun o => match o with
  | .cells _ t frozen => .cells (toCells x.2) t frozen
  | o => o
noncomputable def laidWorld (os : Os) : World :=
  { World.holding Tryd.prog os ⟨#[], #[], []⟩ with heap := List.foldl setTab (World.holding Tryd.prog os ⟨#[], #[], []⟩).heap Rows.scriptNumbersRow.laid }
theorem gTab : Tryd.prog.globalNamed "internal/strconv.uint64pow10" = some 0 := by kernel_rfl
theorem table {W : World} (h : laidMetH Tryd.prog Rows.scriptNumbersRow.laid W) (hS : W.ShapedOpen Tryd.prog) : Tab W := by
  refine ⟨?_, cell_of_shapedOpen_int (zero := #[.int .i64 0]) (t := 3) hS (of_decide_eq_true (by kernel_rfl)) (by kernel_rfl) rfl (by kernel_rfl) (by kernel_rfl) Tryd.underlying3⟩
  obtain ⟨ps, h0, _⟩ := h
  obtain ⟨_, _, _, _, _, _, _, _, _, _, h1, _⟩ := h0
  obtain ⟨_, _, _, _, _, _, _, _, _, _, h2, _⟩ := h1
  exact tab_of_vars gTab (t := 123) (n := 20) (e := 110) (by kernel_rfl) Tryd.underlying123 Tryd.underlying110 (by kernel_rfl) (by kernel_rfl) h2

set_option maxRecDepth 100000 in
theorem contract (H : Type) (enc : TypeId × Value → H) (W : World) (base : Nat) (args : Array Value) (ds gs : List (DataW H)) (before : List MemPlace)
    (hval : ∀ (j : Nat) t v, Tryd.f7.params[j]? = some t → args[j]? = some v → Value.okWide Tryd.prog W .any base t v)
    (hW : DataW.Whole enc Tryd.prog Tryd.f7.params.toList Rows.scriptNumbersSpec.vars false W args.toList ds gs before)
    (hz : (DataW.weightsEach Tryd.prog (Tryd.f7.params.toList ++ ([] : List TypeId)) (ds ++ gs)).all (· ≤ reachBytes) = true) (hL : laidMetH Tryd.prog Rows.scriptNumbersRow.laid W) (hS : W.ShapedOpen Tryd.prog) :
    Calls Tryd.prog 7 args W fun e W' => ∃ v, e = .returned v ∧ Rows.scriptNumbersSpec.post enc Tryd.prog Tryd.f7 false true false false W args v W' := by
  have hW' := hW
  obtain ⟨p, q, hA0, hV, rfl, hfz, hnd⟩ := hW
  have hA : DataW.TrodAll enc Tryd.prog W 0 (fun _ => true) true Tryd.f7.params.toList args.toList ds p := hA0
  rw [Tryd.params7] at hA hval hz
  obtain ⟨v0, vs0, d0, ds0, p0, q0, hargs, rfl, rfl, h0, r0⟩ := trodAll_cons hA
  obtain ⟨v1, vs1, d1, ds1, p1, q1, rfl, rfl, rfl, h1, r1⟩ := trodAll_cons r0
  obtain ⟨rfl, rfl, rfl⟩ := trodAll_nil r1
  obtain rfl : args = #[v0, v1] := by cases args; simp_all
  obtain ⟨rfl, rfl⟩ := trodVars_none hV
  obtain ⟨a0, rfl, rfl, rfl, w0⟩ := open_int Tryd.underlying3 (hval 0 3 v0 rfl rfl) h0
  obtain ⟨a1, rfl, rfl, rfl, w1⟩ := open_int Tryd.underlying2 (hval 1 2 v1 rfl rfl) h1
  clear hA0
  have hc : Calls Tryd.prog 7 #[.int .i64 a0, .int .i64 a1] W fun e W' => e = .returned (.bool true) ∧ Below W.heap.size W W' := scriptNumbers_law a0 a1 (I64_of_wf w0) (I64_of_wf w1) W (table hL hS)
  exact hc.mono fun e W' ⟨he, hb⟩ => ⟨_, he, law_post rfl (by rw [Tryd.params7]; decide +kernel) (tb := 4) (by kernel_rfl) Tryd.underlying4 ⟨rfl, rfl, rfl⟩ hW' hb⟩

set_option maxRecDepth 100000 in
theorem laid_met (os : Os) : laidMet Tryd.prog Rows.scriptNumbersRow.laid ((laidWorld os).forCall (fun _ _ => 0) ⟨#[], #[.int .i64 0, .int .i64 0], []⟩).memory :=
  laidMet_of_run' 8 (by kernel_rfl) (by kernel_rfl)
set_option maxRecDepth 100000 in
theorem reads (os : Os) {H : Type} (enc : TypeId × Value → H) : ∃ places, DataW.whole enc Tryd.prog ((laidWorld os).forCall (fun _ _ => 0) ⟨#[], #[.int .i64 0, .int .i64 0], []⟩).memory Tryd.f7.params.toList Rows.scriptNumbersSpec.vars false (#[.int .i64 0, .int .i64 0] : Array Value).toList 8 = some ([.lit (.int .i64 0), .lit (.int .i64 0)], [], places) :=
  ⟨[], by kernel_rfl⟩
set_option maxRecDepth 100000 in
theorem lifted (os : Os) (started : os.Started) (H : Type) (enc : TypeId × Value → H) (F : Stop.Interp) :
    ReturnsInHanded {} Tryd.checked os 7 .any ((OpenSpec.ofChange Rows.scriptNumbersSpec).preRow enc Tryd.prog Tryd.f7 Rows.scriptNumbersRow.domain false Rows.scriptNumbersRow.laid) (((OpenSpec.ofChange Rows.scriptNumbersSpec).at F).post enc Tryd.prog Tryd.f7 false true false false) := by
  obtain ⟨places, hx⟩ := reads os enc
  refine returnsInHanded_of_row (C := Tryd.checked) (s := OpenSpec.ofChange Rows.scriptNumbersSpec) own started (by kernel_rfl) Tryd.func7
    (witness_row_at (enc := enc) (C := Tryd.checked) false (laidWorld os) #[.int .i64 0, .int .i64 0] rfl (by kernel_rfl) (by kernel_rfl) (by kernel_rfl)
      (OpenSpec.preRow_of_cond 8 hx (by kernel_rfl) (fun k hk => by cases hk) (by kernel_rfl) (laid_met os))) ?_
  intro W base args ds gs before hval hW _ _ hz hL hS _
  exact contract H enc W base args ds gs before hval hW hz hL hS
theorem said : Rows.ScriptNumbersSaid :=
  OpenClaim.holds_of_cond 7 Tryd.f7 rfl rfl rfl rfl rfl rfl rfl ⟨rfl, rfl, rfl, rfl, rfl⟩ rfl rfl rfl rfl rfl (by kernel_rfl) Tryd.func7 (by kernel_rfl)
    (of_decide_eq_true (by kernel_rfl)) (by unfold Func.isWrapper; first | (rw [if_pos (by decide +kernel)]; kernel_rfl) | (rw [if_neg (by decide +kernel)]; exact ⟨rfl, rfl⟩))
    (fun os started H enc _ F => by rw [OpenClaim.pre_eq_preRow]; exact lifted os started H enc F)
theorem plain (f : FuncId) (fn : Func) (hf : Tryd.pinned.checked.prog.funcNamed "coffer/cofferlaw22.ScriptNumbers" = some f) (hfn : Tryd.pinned.checked.prog.funcs[f]? = some fn) :
    false = Tryd.pinned.checked.prog.looks [] ∧ ∀ (j : Nat) t, fn.params[j]? = some t → Tryd.pinned.checked.prog.wantsStandIn t = false := by
  obtain rfl : f = 7 := Option.some.inj ((show Tryd.prog.funcNamed "coffer/cofferlaw22.ScriptNumbers" = some 7 by kernel_rfl).symm.trans hf) |>.symm
  obtain rfl : fn = Tryd.f7 := (Option.some.inj (Tryd.func7.symm.trans hfn)).symm
  refine ⟨by kernel_rfl, fun j t ht => ?_⟩
  rw [Tryd.params7] at ht
  have hm := Array.mem_of_getElem? ht
  exact of_decide_eq_true ((show ([3, 2] : List TypeId).all (fun t => decide (Tryd.prog.wantsStandIn t = false)) = true by kernel_rfl) |> fun h => List.all_eq_true.1 h t (by simpa using hm))
/-- THE CARD -/
theorem proved : Rows.ScriptNumbersCardSaid :=
  Claim7.holds_tied_plain_at .later [] _ _ _ _ said (fun _ h => by cases h) (by kernel_rfl) (fun _ h => by cases h) scriptNumbers_row_tie rfl ⟨rfl, rfl⟩ (by kernel_rfl) rfl plain (by kernel_rfl)
end Go.Proofs.YtdmlgligljagoaaDoor.lawScriptNumbers

/- What comes in: a bucket's value, a delta, opened to rows of versions; what the row's weights say of them. -/
import Derived.Test.YtbhdehkdnenigaaDCopy
import Derived.Test.YtbhdehkdnenigaaLift
import Derived.Deep.Slices
import Derived.Deep.Fields
import Derived.ChangeSame
import Derived.SizedLaws
set_option linter.unusedVariables false
set_option linter.unusedSimpArgs false
namespace Go.Proofs.Ytbhdehkdnenigaa
open Go.RowKit Go.ChangeShapes Go.WideShapes Go.Deep Go.Proofs.YtbhdehkdnenigaaW.PrintWords
section
variable {H : Type} {enc : TypeId × Value → H} {w : World} {base : Nat} {spare : Nat → Bool} {held : Bool}
abbrev Light (t : TypeId) (d : DataW H) : Prop := ∀ n ∈ d.weights Try.prog t, n ≤ reachBytes
theorem open_rows {α : Type} (d : Kd α) {t e : TypeId} {fuel B : Nat} {cs : List Value} {x : DataW H × List MemPlace} (ht : Try.prog.underlying t = some (.slice e)) (hC : Try.prog.cellsOf e = d.sz) (hB : Try.prog.bytesOf e = B) (Q : α → Prop)
    (hel : ∀ n cs' y, DataW.trod enc Try.prog w base spare held n e cs' = some y → Light e y.1 → ∃ a, d.K w a cs' ∧ Q a)
    (h : DataW.trod enc Try.prog w base spare held fuel t cs = some x) (hwt : Light t x.1) :
    ∃ (A : Option Addr) (c : Nat) (l : List α), cs = [.slice A l.length c] ∧ l.length ≤ c ∧ d.C w A l.length l ∧ l.length * B ≤ reachBytes ∧ ∀ a ∈ l, Q a := by
  rcases open_slice ht h with ⟨hcs, _⟩ | ⟨a, len, cap, m, n, D, Pl, hcs, hb, hl, hm, hmm, hx, hi⟩
  · exact ⟨none, 0, [], hcs, Nat.le_refl _, ⟨rfl, by simp, fun h => absurd h (by simp)⟩, by simp, fun a ha => by cases ha⟩
  · subst hx
    have hlm : len ≤ m := by rw [hmm]; split <;> omega
    have hw1 : (len + (m - len)) * Try.prog.bytesOf e ≤ reachBytes := by
      have := hwt _ (by simp only [DataW.weights, ht, List.length_map, List.length_range]; exact List.mem_cons_self)
      exact this
    have hw2 : ∀ i, i < len → Light e (D i) := fun i hi k hk => by
      apply hwt
      simp only [DataW.weights, ht]
      refine List.mem_cons_of_mem _ (List.mem_append_left _ ?_)
      have : ∀ (l : List (DataW H)) (z : DataW H), z ∈ l → ∀ k ∈ z.weights Try.prog e, k ∈ DataW.weightsAll Try.prog e l := by
        intro l
        induction l with
        | nil => intro z hz; cases hz
        | cons y r ih =>
          intro z hz k hk
          simp only [DataW.weightsAll, List.mem_append]
          rcases List.mem_cons.1 hz with rfl | hz
          · exact .inl hk
          · exact .inr (ih z hz k hk)
      exact this _ (D i) (List.mem_map_of_mem (List.mem_range.2 hi)) k hk
    have key : ∀ i : Nat, ∃ p : Option α, i < len → ∃ q cs', p = some q ∧ d.K w q cs' ∧ Q q ∧ cs'.length = d.sz ∧ ∀ j u, cs'[j]? = some u → w.cell? (a.add (i * d.sz + j)) = some u := fun i => by
      by_cases hlt : i < len
      · obtain ⟨cs', hc, ht'⟩ := hi i (by omega)
        obtain ⟨q, hk, hq⟩ := hel n cs' _ ht' (hw2 i hlt)
        obtain ⟨_, hcl, hat⟩ := World.cells?_some hc
        refine ⟨some q, fun _ => ⟨q, cs', rfl, hk, hq, by rw [hcl, hC], fun j u hu => ?_⟩⟩
        have hj : j < cs'.length := by
          rcases Nat.lt_or_ge j cs'.length with h | h
          · exact h
          · rw [List.getElem?_eq_none h] at hu; cases hu
        rw [← hC, ← Go.Deep.add_add, hat j (by omega), hu]
      · exact ⟨none, fun h => absurd h hlt⟩
    obtain ⟨f, hf⟩ := Classical.axiomOfChoice key
    have hlen : ((List.range len).filterMap f).length = len ∧ ∀ i, i < len → ((List.range len).filterMap f)[i]? = f i := by
      have hall : ∀ k, k ≤ len → ((List.range k).filterMap f).length = k ∧ ∀ i, i < k → ((List.range k).filterMap f)[i]? = f i := by
        intro k
        induction k with
        | zero => intro _; exact ⟨rfl, fun i hi => absurd hi (Nat.not_lt_zero _)⟩
        | succ k ih =>
          intro hk
          obtain ⟨h1, h2⟩ := ih (by omega)
          obtain ⟨q, _, e, _⟩ := hf k (by omega)
          rw [List.range_succ, List.filterMap_append]
          have e1 : List.filterMap f [k] = [q] := by simp [e]
          rw [e1]
          refine ⟨by rw [List.length_append, h1]; rfl, fun i hi => ?_⟩
          rcases Nat.lt_or_ge i k with h | h
          · rw [List.getElem?_append_left (by omega)]; exact h2 i h
          · obtain rfl : i = k := by omega
            rw [List.getElem?_append_right (by omega), h1, Nat.sub_self, e]; rfl
      exact hall len (Nat.le_refl _)
    refine ⟨some a, cap, (List.range len).filterMap f, by rw [hlen.1]; exact hcs, by rw [hlen.1]; exact hl, ?_, ?_, ?_⟩
    · rw [hlen.1]
      refine ⟨hlen.1, by have : maxLen = 9223372036854775807 := rfl; omega, fun _ => ⟨a, rfl, fun j p hj => ?_⟩⟩
      have hjl : j < len := by
        rcases Nat.lt_or_ge j len with h | h
        · exact h
        · rw [List.getElem?_eq_none (by rw [hlen.1]; exact h)] at hj; cases hj
      rw [hlen.2 j hjl] at hj
      obtain ⟨q, cs', e, hk, hq, hcl, hat⟩ := hf j hjl
      rw [e] at hj
      cases hj
      exact ⟨cs', hcl, hk, hat⟩
    · rw [hlen.1]
      rw [hB] at hw1
      exact Nat.le_trans (Nat.mul_le_mul_right _ (by omega)) hw1
    · intro z hz
      obtain ⟨i, hi, hzi⟩ := List.getElem_of_mem hz
      have hil : i < len := by rw [hlen.1] at hi; exact hi
      have h3 := hlen.2 i hil
      rw [List.getElem?_eq_getElem hi, hzi] at h3
      obtain ⟨q, cs', e, hk, hq, _⟩ := hf i hil
      rw [e] at h3
      cases h3
      exact hq
theorem open_fields {t : TypeId} {fs : Array Field} {fuel : Nat} {cs : List Value} {x : DataW H × List MemPlace} (ht : Try.prog.underlying t = some (.struct fs)) (hone : oneCellFields Try.prog fs = true) (hC : Try.prog.cellsOf t = fs.size)
    (h : DataW.trod enc Try.prog w base spare held fuel t cs = some x) (hwt : Light t x.1) :
    cs.length = fs.size ∧ ∃ (ys : List (DataW H × List MemPlace)) (n : Nat), x.1 = .agg (ys.map (·.1)) ∧ ys.length = fs.size ∧
      ∀ (j : Nat) (f : Field), fs[j]? = some f → ∃ (v : Value) (y : DataW H × List MemPlace), cs[j]? = some v ∧ ys[j]? = some y ∧ DataW.trod enc Try.prog w base spare held n f.type [v] = some y ∧ Light f.type y.1 := by
  obtain ⟨ys, n, _, hx, hcl, hyl, hf⟩ := DataW.trod_struct ht h
  subst hx
  refine ⟨by rw [hcl, hC], ys, n, rfl, hyl, fun j f hj => ?_⟩
  obtain ⟨ho, hk⟩ := hone_of hone j f hj
  have hjl : j < fs.size := (Array.getElem?_eq_some_iff.1 hj).1
  have hjc : j < cs.length := by rw [hcl, hC]; exact hjl
  have hjy : j < ys.length := by rw [hyl]; exact hjl
  have h1 := hf j f hj
  rw [ho, hk] at h1
  have hone' : (cs.drop j).take 1 = [cs[j]] := by
    rw [List.drop_eq_getElem_cons hjc]
    rfl
  rw [hone', List.getElem?_eq_getElem hjy] at h1
  refine ⟨cs[j], ys[j], List.getElem?_eq_getElem hjc, List.getElem?_eq_getElem hjy, h1, fun k hk => ?_⟩
  apply hwt
  simp only [DataW.weights, ht]
  exact DataW.weights_mem_each (j := j) (t := f.type) (d := ys[j].1) (by rw [List.getElem?_map, Array.getElem?_toList, hj]; rfl) (by rw [List.getElem?_map, List.getElem?_eq_getElem hjy]; rfl) k hk
theorem open_text {n : Nat} {v : Value} {y : DataW H × List MemPlace} (h : DataW.trod enc Try.prog w base spare held n 9 [v] = some y) (hw : Light 9 y.1) : ∃ s : ByteArray, v = .string s ∧ s.size ≤ 140737488355328 := by
  obtain ⟨s, e, rfl, _⟩ := DataW.trod_string Try.underlying9 h
  cases e
  refine ⟨s, rfl, ?_⟩
  have := hw s.data.toList.length (by simp [DataW.weights])
  rw [Array.length_toList] at this
  have h2 : s.size = s.data.size := rfl
  unfold reachBytes at this
  omega
theorem open_num {n : Nat} {v : Value} {y : DataW H × List MemPlace} (h : DataW.trod enc Try.prog w base spare held n 2 [v] = some y) : ∃ z : Int, v = .int .i64 z ∧ (Lit.int .i64 z).wf = true := by
  obtain ⟨z, e, _, hz⟩ := DataW.trod_int Try.underlying2 h
  cases e
  exact ⟨z, rfl, hz⟩
theorem open_truth {n : Nat} {v : Value} {y : DataW H × List MemPlace} (h : DataW.trod enc Try.prog w base spare held n 4 [v] = some y) : ∃ b : Bool, v = .bool b := by
  obtain ⟨b, e, _⟩ := DataW.trod_bool Try.underlying4 h
  cases e
  exact ⟨b, rfl⟩
theorem open_pair {n : Nat} {cs : List Value} {y : DataW H × List MemPlace} (h : DataW.trod enc Try.prog w base spare held n 60 cs = some y) (hw : Light 60 y.1) : ∃ p : Pr, kPr.K w p cs ∧ (p.n.size ≤ 140737488355328 ∧ p.v.size ≤ 140737488355328) := by
  obtain ⟨hl, ys, m, _, _, hf⟩ := open_fields Try.underlying60 (by kernel_rfl) (by kernel_rfl) h hw
  obtain ⟨v0, y0, e0, _, t0, w0⟩ := hf 0 _ rfl
  obtain ⟨v1, y1, e1, _, t1, w1⟩ := hf 1 _ rfl
  obtain ⟨a, rfl, ha⟩ := open_text t0 w0
  obtain ⟨b, rfl, hb⟩ := open_text t1 w1
  match cs, hl, e0, e1 with
  | [c0, c1], _, e0, e1 =>
    cases e0
    cases e1
    exact ⟨⟨a, b⟩, kPr_mk w ⟨a, b⟩, ha, hb⟩
def VnOk (x : Vn) : Prop := x.Fits ∧ x.pairs.length * 32 ≤ 140737488351232 ∧ (Lit.int .i64 x.seq).wf = true
theorem open_version {n : Nat} {cs : List Value} {y : DataW H × List MemPlace} (h : DataW.trod enc Try.prog w base spare held n 48 cs = some y) (hw : Light 48 y.1) : ∃ x : Vn, kVn.K w x cs ∧ VnOk x := by
  obtain ⟨hl, ys, m, _, _, hf⟩ := open_fields Try.underlying48 (by kernel_rfl) (by kernel_rfl) h hw
  obtain ⟨v0, y0, e0, _, t0, w0⟩ := hf 0 _ rfl
  obtain ⟨v1, y1, e1, _, t1, w1⟩ := hf 1 _ rfl
  obtain ⟨v2, y2, e2, _, t2, w2⟩ := hf 2 _ rfl
  obtain ⟨v3, y3, e3, _, t3, w3⟩ := hf 3 _ rfl
  obtain ⟨v4, y4, e4, _, t4, w4⟩ := hf 4 _ rfl
  obtain ⟨a, rfl, ha⟩ := open_text t0 w0
  obtain ⟨z, rfl, hz⟩ := open_num t1
  obtain ⟨g, rfl⟩ := open_truth t2
  obtain ⟨b, rfl, hb⟩ := open_text t3 w3
  obtain ⟨A, c, l, e, hc, hC, hB, hQ⟩ := open_rows kPr Try.underlying46 (by kernel_rfl) (by kernel_rfl : _ = 32) (fun p : Pr => p.n.size ≤ 140737488355328 ∧ p.v.size ≤ 140737488355328) (fun n cs' y h hw => open_pair h hw) t4 w4
  cases e
  match cs, hl, e0, e1, e2, e3, e4 with
  | [c0, c1, c2, c3, c4], _, e0, e1, e2, e3, e4 =>
    cases e0
    cases e1
    cases e2
    cases e3
    cases e4
    exact ⟨⟨a, z, g, b, l⟩, kVn_mk w ⟨a, z, g, b, l⟩ hc hC, ⟨ha, hb, hQ⟩, hB, hz⟩
def BkOk (l : List Vn) : Prop := ∀ x ∈ l, (Lit.int .i64 x.seq).wf = true
theorem open_bucket {n : Nat} {cs : List Value} {y : DataW H × List MemPlace} (h : DataW.trod enc Try.prog w base spare held n 24 cs = some y) (hw : Light 24 y.1) :
    ∃ (nx : Int) (A : Option Addr) (c : Nat) (l : List Vn), cs = [.int .i64 nx, .slice A l.length c] ∧ (Lit.int .i64 nx).wf = true ∧ l.length ≤ c ∧ kVn.C w A l.length l ∧ Room l ∧ BkOk l := by
  obtain ⟨hl, ys, m, _, _, hf⟩ := open_fields Try.underlying24 (by kernel_rfl) (by kernel_rfl) h hw
  obtain ⟨v0, y0, e0, _, t0, w0⟩ := hf 0 _ rfl
  obtain ⟨v1, y1, e1, _, t1, w1⟩ := hf 1 _ rfl
  obtain ⟨z, rfl, hz⟩ := open_num t0
  obtain ⟨A, c, l, e, hc, hC, hB, hQ⟩ := open_rows kVn Try.underlying22 (by kernel_rfl) (by kernel_rfl : _ = 72) VnOk (fun n cs' y h hw => open_version h hw) t1 w1
  cases e
  match cs, hl, e0, e1 with
  | [c0, c1], _, e0, e1 =>
    cases e0
    cases e1
    exact ⟨z, A, c, l, rfl, hz, hc, hC, ⟨hB, fun x hx => (hQ x hx).2.1, fun x hx => (hQ x hx).1⟩, fun x hx => (hQ x hx).2.2⟩
theorem light_of {ts : List TypeId} {ds : List (DataW H)} (hz : (DataW.weightsEach Try.prog ts ds).all (· ≤ reachBytes) = true) {j : Nat} {t : TypeId} {d : DataW H} (ht : ts[j]? = some t) (hd : ds[j]? = some d) : Light t d := fun n hn => by
  have := List.all_eq_true.1 hz n (DataW.weights_mem_each ht hd n hn)
  simpa using this
theorem open_bucket_arg {r : Reach} {b0 : Nat} {v : Value} {d : DataW H} {p : List MemPlace} (hv : Value.okWide Try.prog w r b0 24 v) (h : DataW.Trod enc Try.prog w base spare held 24 v d p) (hw : Light 24 d) :
    ∃ (nx : Int) (A : Option Addr) (c : Nat) (l : List Vn), v = .agg #[.int .i64 nx, .slice A l.length c] ∧ (Lit.int .i64 nx).wf = true ∧ l.length ≤ c ∧ kVn.C w A l.length l ∧ Room l ∧ BkOk l := by
  obtain ⟨cs, rfl, hsz⟩ := okWide_struct Try.underlying24 hv
  obtain ⟨fuel, hf⟩ := h
  obtain ⟨nx, A, c, l, e, r⟩ := open_bucket hf hw
  obtain ⟨cs⟩ := cs
  have e2 : cs = [.int .i64 nx, .slice A l.length c] := e
  subst e2
  exact ⟨nx, A, c, l, rfl, r⟩
theorem open_delta_arg {r : Reach} {b0 : Nat} {v : Value} {d : DataW H} {p : List MemPlace} (hv : Value.okWide Try.prog w r b0 27 v) (h : DataW.Trod enc Try.prog w base spare held 27 v d p) (hw : Light 27 d) :
    ∃ (s nx : Int) (A : Option Addr) (c : Nat) (l : List Vn), v = .agg #[.int .i64 s, .int .i64 nx, .slice A l.length c] ∧ (Lit.int .i64 s).wf = true ∧ (Lit.int .i64 nx).wf = true ∧ l.length ≤ c ∧ kVn.C w A l.length l ∧ Room l ∧ BkOk l := by
  obtain ⟨cs, rfl, hsz⟩ := okWide_struct Try.underlying27 hv
  obtain ⟨fuel, hf⟩ := h
  obtain ⟨cs⟩ := cs
  have hC3 : Try.prog.cellsOf 27 = 3 := by kernel_rfl
  match cs, hsz.trans hC3 with
  | [c0, c1, c2], _ =>
    obtain ⟨ys, n, _, hx, _, hlen, hg⟩ := DataW.trod_struct Try.underlying27 hf
    have k0 : Try.prog.cellsOf 2 = 1 := by kernel_rfl
    have k1 : Try.prog.cellsOf 24 = 2 := by kernel_rfl
    match ys, hlen with
    | [y0, y1], _ =>
      simp only [Prod.mk.injEq] at hx
      obtain ⟨rfl, _⟩ := hx
      have g0 : DataW.trod enc Try.prog w base spare held n 2 [c0] = some y0 := by simpa [Value.cells, k0] using hg 0 _ rfl
      have g1 : DataW.trod enc Try.prog w base spare held n 24 [c1, c2] = some y1 := by simpa [Value.cells, k1] using hg 1 _ rfl
      have hw1 : Light 24 y1.1 := fun k hk => by
        apply hw
        simp only [DataW.weights, Try.underlying27]
        exact DataW.weights_mem_each (j := 1) (t := 24) (d := y1.1) rfl rfl k hk
      obtain ⟨s, rfl, hs⟩ := open_num g0
      obtain ⟨nx, A, c, l, e, r⟩ := open_bucket g1 hw1
      cases e
      exact ⟨s, nx, A, c, l, rfl, hs, r⟩
end
end Go.Proofs.Ytbhdehkdnenigaa

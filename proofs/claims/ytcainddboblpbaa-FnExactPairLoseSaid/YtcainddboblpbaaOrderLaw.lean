/- The program's FindOrder and the reference's say the same, plainly. -/
import Derived.Test.YtcainddboblpbaaFlashLaw2
import Derived.Test.YtcainddboblpbaaSpans
set_option linter.unusedVariables false
set_option linter.unusedSimpArgs false
namespace Go.Bu
open Go Go.RowKit Go.Plan Go.Proofs

theorem pageOk_one {p : Page} (h : pageOkB p = true) : (p.state = 1 → 1 ≤ p.r.seq) ∧ (p.state ≠ 1 → p.r.seq = 0) := by
  unfold pageOkB at h
  by_cases hs : p.state = 1
  · rw [if_pos hs] at h
    simp only [recOkB, Bool.and_eq_true, inB_iff] at h
    exact ⟨fun _ => by omega, fun h => absurd hs h⟩
  · rw [if_neg hs] at h
    simp only [recZ, Bool.and_eq_true, beq_iff_eq] at h
    exact ⟨fun h => absurd h hs, fun _ => by omega⟩
theorem spanFold_eq : ∀ (ps : List Page) (lo hi : Int), (∀ p ∈ ps, pageOkB p = true) → 0 ≤ hi → ps.foldl spanStep (lo, hi) = (ps.foldl leastStep lo, ps.foldl mostStep hi)
  | [], _, _, _, _ => rfl
  | p :: ps, lo, hi, h, h0 => by
    have hp := pageOk_one (h p (by simp))
    rw [List.foldl_cons, List.foldl_cons, List.foldl_cons]
    have e : spanStep (lo, hi) p = (leastStep lo p, mostStep hi p) := by
      unfold spanStep leastStep mostStep
      by_cases hs : p.state = 1
      · have := hp.1 hs
        rw [if_pos hs]
        by_cases h1 : lo = 0 ∨ p.r.seq < lo
        · rw [if_pos (show (lo, hi).1 = 0 ∨ p.r.seq < (lo, hi).1 from h1), if_pos (show 0 < p.r.seq ∧ (lo = 0 ∨ p.r.seq < lo) from ⟨by omega, h1⟩)]
        · rw [if_neg (show ¬ ((lo, hi).1 = 0 ∨ p.r.seq < (lo, hi).1) from h1), if_neg (show ¬ (0 < p.r.seq ∧ (lo = 0 ∨ p.r.seq < lo)) from fun h => h1 h.2)]
      · have := hp.2 hs
        rw [if_neg hs, if_neg (show ¬ (0 < p.r.seq ∧ (lo = 0 ∨ p.r.seq < lo)) by omega), if_neg (show ¬ hi < p.r.seq by omega)]
    rw [e]
    exact spanFold_eq ps _ _ (fun q hq => h q (by simp [hq])) (by unfold mostStep; split <;> omega)

theorem spB_fold (i : Nat) (ps : List Page) : ∀ (k : Nat), k ≤ ps.length → ∀ ss : List Span, i < ss.length → (spB i ps k).foldl spanAt ss = ss.set i ((ps.take k).foldl spanStep (ss.getD i (0, 0))) := by
  intro k
  induction k with
  | zero =>
    intro _ ss hi
    simp [spB, List.getElem?_eq_getElem hi]
  | succ k ih =>
    intro hk ss hi
    rw [spB_succ i ps k (by omega), List.foldl_append, ih (by omega) ss hi, ← take_snoc ps k (by omega), List.foldl_append]
    simp [spanAt, List.getElem?_eq_getElem hi, hi]

theorem four {α : Type} {f : List α} (h : f.length = 4) : ∃ a b c d, f = [a, b, c, d] := by
  match f, h with
  | [a, b, c, d], _ => exact ⟨a, b, c, d, rfl⟩

theorem spansOf_eq {f : List Block} (h4 : f.length = 4) (hp : ∀ b ∈ f, ∀ p ∈ b.pages, pageOkB p = true) : spansOf f = f.map fun b => (least b.pages, most b.pages) := by
  obtain ⟨b0, b1, b2, b3, rfl⟩ := four h4
  have e : spF [b0, b1, b2, b3] 4 = spB 0 b0.pages b0.pages.length ++ (spB 1 b1.pages b1.pages.length ++ (spB 2 b2.pages b2.pages.length ++ (spB 3 b3.pages b3.pages.length ++ []))) := rfl
  have g : ∀ b ∈ [b0, b1, b2, b3], b.pages.foldl spanStep (0, 0) = (least b.pages, most b.pages) := fun b hb => spanFold_eq _ 0 0 (hp b hb) (by decide)
  have g0 := g b0 (by simp)
  have g1 := g b1 (by simp)
  have g2 := g b2 (by simp)
  have g3 := g b3 (by simp)
  unfold spansOf spansL
  rw [h4, e]
  simp only [List.foldl_append, List.append_nil]
  rw [spB_fold 0 _ _ (Nat.le_refl _) _ (by simp), spB_fold 1 _ _ (Nat.le_refl _) _ (by simp), spB_fold 2 _ _ (Nat.le_refl _) _ (by simp), spB_fold 3 _ _ (Nat.le_refl _) _ (by simp)]
  simp [g0, g1, g2, g3]

theorem most_mem : ∀ (ps : List Page) (n : Int), ps.foldl mostStep n = n ∨ ∃ p ∈ ps, p.r.seq = ps.foldl mostStep n
  | [], n => .inl rfl
  | p :: ps, n => by
    rw [List.foldl_cons]
    rcases most_mem ps (mostStep n p) with h | ⟨q, hq, h⟩
    · rw [h]; unfold mostStep
      split
      · exact .inr ⟨p, by simp, rfl⟩
      · exact .inl rfl
    · exact .inr ⟨q, by simp [hq], h⟩
theorem least_mem : ∀ (ps : List Page) (n : Int), ps.foldl leastStep n = n ∨ ∃ p ∈ ps, p.r.seq = ps.foldl leastStep n
  | [], n => .inl rfl
  | p :: ps, n => by
    rw [List.foldl_cons]
    rcases least_mem ps (leastStep n p) with h | ⟨q, hq, h⟩
    · rw [h]; unfold leastStep
      split
      · exact .inr ⟨p, by simp, rfl⟩
      · exact .inl rfl
    · exact .inr ⟨q, by simp [hq], h⟩

/-- no number stands in two blocks -/
theorem FlashOk.apart {f : List Block} (h : FlashOk f) {i k : Nat} (hi : i < f.length) (hk : k < f.length) (hik : i ≠ k) {p q : Page} (hp : p ∈ f[i].pages) (hq : q ∈ f[k].pages) (h1 : p.state = 1) (h2 : q.state = 1) : p.r.seq ≠ q.r.seq := by
  have key : ∀ {i k : Nat} (hi : i < f.length) (hk : k < f.length), i < k → ∀ {p q : Page}, p ∈ f[i].pages → q ∈ f[k].pages → p.state = 1 → q.state = 1 → p.r.seq ≠ q.r.seq := by
    intro i k hi hk hlt p q hp hq h1 h2 e
    have hn := h.nd
    rw [seqs_at f i hi] at hn
    have hn2 := (List.nodup_append.1 (List.nodup_append.1 hn).2.1).2.2
    refine hn2 p.r.seq (mem_pseqs.2 ⟨p, hp, h1, rfl⟩) q.r.seq (mem_seqs.2 ⟨f[k], ?_, q, hq, h2, rfl⟩) e
    rw [List.mem_iff_getElem?]
    exact ⟨k - (i + 1), by rw [List.getElem?_drop, show i + 1 + (k - (i + 1)) = k by omega]; exact List.getElem?_eq_getElem hk⟩
  rcases Nat.lt_or_gt_of_ne hik with h' | h'
  · exact key hi hk h' hp hq h1 h2
  · exact fun e => key hk hi h' hq hp h2 h1 e.symm

theorem FlashOk.pg {f : List Block} (h : FlashOk f) {b : Block} (hb : b ∈ f) : ∀ p ∈ b.pages, pageOkB p = true := (blockB_iff.1 (h.blocks b hb)).2.2.2.1

theorem FlashOk.uniq {f : List Block} (h : FlashOk f) {i k : Nat} (hi : i < f.length) (hk : k < f.length) (hik : i ≠ k) (hm : 0 < most f[i].pages) : least f[k].pages ≠ most f[i].pages := by
  intro e
  have hpi := h.pg (List.getElem_mem hi)
  have hpk := h.pg (List.getElem_mem hk)
  rcases most_mem f[i].pages 0 with h1 | ⟨p, hp, h1⟩
  · have h1' : most f[i].pages = 0 := h1
    omega
  · rcases least_mem f[k].pages 0 with h2 | ⟨q, hq, h2⟩
    · have h2' : least f[k].pages = 0 := h2
      omega
    · have h1' : p.r.seq = most f[i].pages := h1
      have h2' : q.r.seq = least f[k].pages := h2
      have s1 : p.state = 1 := Decidable.byContradiction fun hs => by have := (pageOk_one (hpi p hp)).2 hs; omega
      have s2 : q.state = 1 := Decidable.byContradiction fun hs => by have := (pageOk_one (hpk q hq)).2 hs; omega
      exact h.apart hi hk hik hp hq s1 s2 (by omega)

/-! ### what the program looks at -/
def ovl (a b : Span) : Bool := decide (0 < a.2) && decide (0 < b.2) && decide (b.1 ≤ a.2) && decide (a.1 ≤ b.2)
def spn (ss : List Span) (i : Nat) : Span := ss.getD i (0, 0)
def newN (ss : List Span) (i : Nat) : Int := (ss.take i).foldl (fun n s => if n < s.2 then s.2 else n) 0
def okI (ss : List Span) (i : Nat) : Bool := (List.range i).all fun k => !ovl (spn ss i) (spn ss k)
def blk (f : List Block) (i : Nat) : Block := f.getD i ⟨[], 0⟩
def okP (f : List Block) (ss : List Span) (i : Nat) : Bool := !(partB (blk f i).pages && decide (0 < (spn ss i).2) && decide ((spn ss i).2 < newN ss 4))
def cntP (f : List Block) (i : Nat) : Int := ((f.take i).filter fun b => partB b.pages).length
def implOrderB (f : List Block) : Bool := flashOkB f && ((List.range 4).all (okI (spansOf f)) && ((List.range 4).all (okP f (spansOf f)) && decide (cntP f 4 ≤ 1)))

theorem order_logic (m l : Nat → Int) (pt : Nat → Bool) (N c : Int) (hN : (∀ k, k < 4 → m k ≤ N) ∧ (N = 0 ∨ ∃ k, k < 4 ∧ N = m k)) (hc : c ≤ 1 ↔ ∀ i k, i < 4 → k < 4 → i ≠ k → ¬ (pt i = true ∧ pt k = true))
    (hu : ∀ i k, i < 4 → k < 4 → i ≠ k → 0 < m i → l k ≠ m i) :
    ((∀ i k, i < 4 → k < i → ¬ (0 < m i ∧ 0 < m k ∧ l k ≤ m i ∧ l i ≤ m k)) ∧ (∀ i, i < 4 → ¬ (pt i = true ∧ 0 < m i ∧ m i < N)) ∧ c ≤ 1) ↔
    ∀ i k, i < 4 → k < 4 → i ≠ k → ¬ (0 < m i ∧ 0 < m k ∧ l i < m k ∧ l k < m i) ∧ ¬ (pt i = true ∧ (pt k = true ∨ (0 < m i ∧ m i < m k))) := by
  rw [hc]
  constructor
  · rintro ⟨h1, h2, h3⟩ i k hi hk hik
    refine ⟨fun ⟨a, b, c, d⟩ => ?_, fun ⟨a, b⟩ => ?_⟩
    · rcases Nat.lt_or_gt_of_ne hik with h | h
      · exact h1 k i hk h ⟨b, a, by omega, by omega⟩
      · exact h1 i k hi h ⟨a, b, by omega, by omega⟩
    · rcases b with b | ⟨b, d⟩
      · exact h3 i k hi hk hik ⟨a, b⟩
      · exact h2 i hi ⟨a, b, by have := hN.1 k hk; omega⟩
  · intro h
    refine ⟨fun i k hi hk ⟨a, b, c, d⟩ => ?_, fun i hi ⟨a, b, c⟩ => ?_, fun i k hi hk hik ⟨a, b⟩ => (h i k hi hk hik).2 ⟨a, .inl b⟩⟩
    · have u1 := hu i k hi (by omega) (by omega) a
      have u2 := hu k i (by omega) hi (by omega) b
      exact (h i k hi (by omega) (by omega)).1 ⟨a, b, by omega, by omega⟩
    · rcases hN.2 with h0 | ⟨k, hk, h0⟩
      · omega
      · have hik : i ≠ k := fun e => by subst e; omega
        exact (h i k hi hk hik).2 ⟨a, .inr ⟨b, by omega⟩⟩

theorem orderIn_iff (i : Nat) (a : Block) : ∀ (f : List Block) (k : Nat), orderIn i a k f = true ↔ ∀ j (h : j < f.length), badPair i (k + j) a f[j] = false
  | [], k => by simp [orderIn]
  | b :: f, k => by
    rw [orderIn]
    by_cases hb : badPair i k a b = true
    · rw [if_pos hb]
      constructor
      · intro h; cases h
      · intro h
        have := h 0 (by simp)
        simp [hb] at this
    · rw [if_neg hb, orderIn_iff i a f (k + 1)]
      constructor
      · intro h j hj
        cases j with
        | zero => simpa using hb
        | succ j => have := h j (by simpa using hj); rw [show k + (j + 1) = k + 1 + j by omega]; simpa using this
      · intro h j hj
        have := h (j + 1) (by simpa using hj)
        rw [show k + (j + 1) = k + 1 + j by omega] at this; simpa using this
theorem orderOut_iff (g : List Block) : ∀ (f : List Block) (i : Nat), orderOut g i f = true ↔ ∀ j (h : j < f.length), orderIn (i + j) f[j] 0 g = true
  | [], i => by simp [orderOut]
  | a :: f, i => by
    rw [orderOut, Bool.and_eq_true, orderOut_iff g f (i + 1)]
    constructor
    · rintro ⟨h1, h2⟩ j hj
      cases j with
      | zero => simpa using h1
      | succ j => have := h2 j (by simpa using hj); rw [show i + (j + 1) = i + 1 + j by omega]; simpa using this
    · intro h
      refine ⟨by have := h 0 (by simp); simpa using this, fun j hj => ?_⟩
      have := h (j + 1) (by simpa using hj)
      rw [show i + (j + 1) = i + 1 + j by omega] at this; simpa using this

theorem newN_max (ss : List Span) : ∀ (n : Int), (∀ s ∈ ss, s.2 ≤ ss.foldl (fun n s => if n < s.2 then s.2 else n) n) ∧ n ≤ ss.foldl (fun n s => if n < s.2 then s.2 else n) n ∧
    (ss.foldl (fun n s => if n < s.2 then s.2 else n) n = n ∨ ∃ s ∈ ss, ss.foldl (fun n s => if n < s.2 then s.2 else n) n = s.2) := by
  induction ss with
  | nil => intro n; exact ⟨fun s hs => (by cases hs), Int.le_refl _, .inl rfl⟩
  | cons x ss ih =>
    intro n
    rw [List.foldl_cons]
    obtain ⟨h1, h2, h3⟩ := ih (if n < x.2 then x.2 else n)
    generalize ss.foldl (fun n s => if n < s.2 then s.2 else n) (if n < x.2 then x.2 else n) = r at *
    by_cases hx : n < x.2
    · rw [if_pos hx] at h2 h3
      refine ⟨fun s hs => ?_, by omega, ?_⟩
      · rcases List.mem_cons.1 hs with rfl | hs
        · exact h2
        · exact h1 s hs
      · rcases h3 with h3 | ⟨s, hs, h3⟩
        · exact .inr ⟨x, by simp, h3⟩
        · exact .inr ⟨s, by simp [hs], h3⟩
    · rw [if_neg hx] at h2 h3
      refine ⟨fun s hs => ?_, by omega, ?_⟩
      · rcases List.mem_cons.1 hs with rfl | hs
        · omega
        · exact h1 s hs
      · rcases h3 with h3 | ⟨s, hs, h3⟩
        · exact .inl h3
        · exact .inr ⟨s, by simp [hs], h3⟩

theorem okI_iff {ss : List Span} {i : Nat} : okI ss i = true ↔ ∀ k, k < i → ¬ (0 < (spn ss i).2 ∧ 0 < (spn ss k).2 ∧ (spn ss k).1 ≤ (spn ss i).2 ∧ (spn ss i).1 ≤ (spn ss k).2) := by
  unfold okI
  rw [List.all_eq_true]
  simp only [List.mem_range, Bool.not_eq_true', ← Bool.not_eq_true, ovl, Bool.and_eq_true, decide_eq_true_eq, and_assoc]
theorem okP_iff {f : List Block} {ss : List Span} {i : Nat} : okP f ss i = true ↔ ¬ (partB (blk f i).pages = true ∧ 0 < (spn ss i).2 ∧ (spn ss i).2 < newN ss 4) := by
  unfold okP
  simp only [Bool.not_eq_true', ← Bool.not_eq_true, Bool.and_eq_true, decide_eq_true_eq, and_assoc]
theorem badPair_iff {i k : Nat} {a b : Block} : badPair i k a b = false ↔ (i ≠ k → ¬ (0 < most a.pages ∧ 0 < most b.pages ∧ least a.pages < most b.pages ∧ least b.pages < most a.pages) ∧ ¬ (partB a.pages = true ∧ (partB b.pages = true ∨ (0 < most a.pages ∧ most a.pages < most b.pages)))) := by
  rw [← Bool.not_eq_true]
  unfold badPair partB
  simp only [Bool.or_eq_true, Bool.and_eq_true, decide_eq_true_eq]
  constructor
  · intro h hik
    exact ⟨fun ⟨a, b, c, d⟩ => h (.inl ⟨⟨⟨⟨hik, a⟩, b⟩, c⟩, d⟩), fun ⟨⟨a, b⟩, c⟩ => h (.inr ⟨⟨⟨hik, a⟩, b⟩, c⟩)⟩
  · rintro h (⟨⟨⟨⟨hik, a⟩, b⟩, c⟩, d⟩ | ⟨⟨⟨hik, a⟩, b⟩, c⟩)
    · exact (h hik).1 ⟨a, b, c, d⟩
    · exact (h hik).2 ⟨⟨a, b⟩, c⟩
theorem implOrder_eq (f : List Block) : implOrderB f = orderB f := by
  unfold implOrderB orderB
  by_cases hf : flashOkB f = true
  · rw [hf, Bool.true_and, Bool.true_and]
    have hF := flashOk_iff.1 hf
    have h4 := hF.len
    have hsp := spansOf_eq h4 (fun b hb => hF.pg hb)
    have hm : ∀ i (hi : i < 4), spn (spansOf f) i = (least f[i].pages, most f[i].pages) := fun i hi => by
      rw [hsp]; unfold spn; rw [List.getD_eq_getElem?_getD, List.getElem?_map, List.getElem?_eq_getElem (by omega)]; rfl
    have hb : ∀ i (hi : i < 4), blk f i = f[i] := fun i hi => by
      unfold blk; rw [List.getD_eq_getElem?_getD, List.getElem?_eq_getElem (by omega)]; rfl
    have hlen : (spansOf f).length = 4 := spansL_len _
    have hnew := newN_max (spansOf f) 0
    have hN4 : newN (spansOf f) 4 = (spansOf f).foldl (fun n s => if n < s.2 then s.2 else n) 0 := by unfold newN; rw [← hlen, List.take_length]
    rw [← hN4] at hnew
    have L := order_logic (fun i => (spn (spansOf f) i).2) (fun i => (spn (spansOf f) i).1) (fun i => partB (blk f i).pages) (newN (spansOf f) 4) (cntP f 4)
      ⟨fun k hk => by
        refine hnew.1 _ ?_
        show spn (spansOf f) k ∈ spansOf f
        unfold spn; rw [List.getD_eq_getElem?_getD, List.getElem?_eq_getElem (by omega)]; exact List.getElem_mem _,
      by
        rcases hnew.2.2 with h | ⟨s, hs, h⟩
        · exact .inl h
        · obtain ⟨k, hk, rfl⟩ := List.getElem_of_mem hs
          exact .inr ⟨k, by omega, by rw [h]; show _ = (spn (spansOf f) k).2; unfold spn; rw [List.getD_eq_getElem?_getD, List.getElem?_eq_getElem hk]; rfl⟩⟩
      (by
        obtain ⟨b0, b1, b2, b3, rfl⟩ := four h4
        have e : ∀ (P : Nat → Nat → Prop), (∀ i k, i < 4 → k < 4 → i ≠ k → P i k) ↔ (P 0 1 ∧ P 0 2 ∧ P 0 3 ∧ P 1 0 ∧ P 1 2 ∧ P 1 3 ∧ P 2 0 ∧ P 2 1 ∧ P 2 3 ∧ P 3 0 ∧ P 3 1 ∧ P 3 2) := by
          intro P
          constructor
          · intro h; exact ⟨h 0 1 (by omega) (by omega) (by omega), h 0 2 (by omega) (by omega) (by omega), h 0 3 (by omega) (by omega) (by omega), h 1 0 (by omega) (by omega) (by omega), h 1 2 (by omega) (by omega) (by omega), h 1 3 (by omega) (by omega) (by omega),
              h 2 0 (by omega) (by omega) (by omega), h 2 1 (by omega) (by omega) (by omega), h 2 3 (by omega) (by omega) (by omega), h 3 0 (by omega) (by omega) (by omega), h 3 1 (by omega) (by omega) (by omega), h 3 2 (by omega) (by omega) (by omega)⟩
          · rintro ⟨a01, a02, a03, a10, a12, a13, a20, a21, a23, a30, a31, a32⟩ i k hi hk hik
            obtain rfl | rfl | rfl | rfl : i = 0 ∨ i = 1 ∨ i = 2 ∨ i = 3 := by omega
            all_goals
              obtain rfl | rfl | rfl | rfl : k = 0 ∨ k = 1 ∨ k = 2 ∨ k = 3 := by omega
              all_goals first | exact absurd rfl hik | assumption
        rw [e]
        unfold cntP blk
        simp only [List.getD_eq_getElem?_getD, List.getElem?_cons_zero, List.getElem?_cons_succ, Option.getD_some, List.take_succ_cons, List.take_zero]
        rcases Bool.eq_false_or_eq_true (partB b0.pages) with h0 | h0 <;> rcases Bool.eq_false_or_eq_true (partB b1.pages) with h1 | h1 <;> rcases Bool.eq_false_or_eq_true (partB b2.pages) with h2 | h2 <;> rcases Bool.eq_false_or_eq_true (partB b3.pages) with h3 | h3 <;>
          simp [List.filter_cons, h0, h1, h2, h3])
      (fun i k hi hk hik h0 => by
        rw [hm i hi] at h0 ⊢; rw [hm k hk]
        exact hF.uniq (by omega) (by omega) hik h0)
    rw [Bool.eq_iff_iff]
    refine Iff.trans ?_ (L.trans ?_)
    · simp only [Bool.and_eq_true, List.all_eq_true, List.mem_range, okI_iff, okP_iff, decide_eq_true_eq]
      exact ⟨fun ⟨h1, h2, h3⟩ => ⟨fun i k hi hk => h1 i hi k hk, h2, h3⟩, fun ⟨h1, h2, h3⟩ => ⟨fun i hi k hk => h1 i k hi hk, h2, h3⟩⟩
    · rw [orderOut_iff]
      simp only [orderIn_iff, Nat.zero_add, badPair_iff]
      constructor
      · intro h i hi k hk
        have := h i k (by omega) (by omega)
        rw [hm i (by omega), hm k (by omega), hb i (by omega), hb k (by omega)] at this
        exact this
      · intro h i k hi hk
        rw [hm i hi, hm k hk, hb i hi, hb k hk]
        exact h i (by omega) k (by omega)
  · have : flashOkB f = false := by simpa using hf
    rw [this]; rfl
end Go.Bu

/- A flash that is well formed, in plain words; what writing and wiping leave of it. -/
import Derived.Test.YtcainddboblpbaaRunS
set_option linter.unusedVariables false
set_option linter.unusedSimpArgs false
namespace Go.Bu
open Go Go.RowKit Go.Plan Go.Proofs

def ordB (prev : Bool) : List Page → Bool
  | [] => true
  | p :: ps => !(prev && p.state != 0) && ordB (p.state == 0) ps
def seqOf (p : Page) : Option Int := if p.state = 1 then some p.r.seq else none
def pseqs (ps : List Page) : List Int := ps.filterMap seqOf
def seqs (f : List Block) : List Int := f.flatMap fun b => pseqs b.pages
def fresh (L : List Int) : List Int → Bool
  | [] => true
  | x :: xs => !L.contains x && fresh (x :: L) xs
def blockB (b : Block) : Bool := b.pages.length == 4 && inB b.worn 0 200 && b.pages.all pageOkB && ordB false b.pages

theorem scanP_eq : ∀ (ps : List Page) (prev : Bool) (L : List Int), scanP prev L ps = if ps.all pageOkB && ordB prev ps && fresh L (pseqs ps) then some ((pseqs ps).reverse ++ L) else none
  | [], prev, L => by simp [scanP, ordB, pseqs, fresh]
  | p :: ps, prev, L => by
    rw [scanP, scanP_eq ps]
    by_cases h1 : p.state = 1
    · have hq : pseqs (p :: ps) = p.r.seq :: pseqs ps := by simp [pseqs, seqOf, h1]
      rw [hq]
      simp only [h1, ordB, fresh, List.all_cons, List.reverse_cons, List.append_assoc]
      by_cases hp : pageOkB p = true <;> cases prev <;> by_cases hc : p.r.seq ∈ L <;> simp [hp, hc]
    · have hq : pseqs (p :: ps) = pseqs ps := by simp [pseqs, seqOf, h1]
      rw [hq]
      have hb : (p.state == 1) = false := by simpa using h1
      simp only [hb, ordB, List.all_cons]
      by_cases hp : pageOkB p = true <;> cases prev <;> by_cases hz : p.state = 0 <;> simp [hp, hz]

theorem fresh_append : ∀ (a b L : List Int), fresh L (a ++ b) = (fresh L a && fresh (a.reverse ++ L) b)
  | [], b, L => by simp [fresh]
  | x :: a, b, L => by simp [fresh, fresh_append a, Bool.and_assoc]

theorem scanF_eq : ∀ (f : List Block) (L : List Int), scanF L f = if f.all blockB && fresh L (seqs f) then some ((seqs f).reverse ++ L) else none
  | [], L => by simp [scanF, seqs, fresh]
  | b :: f, L => by
    have hq : seqs (b :: f) = pseqs b.pages ++ seqs f := by simp [seqs]
    rw [scanF, scanP_eq, hq, fresh_append]
    simp only [List.all_cons, blockB]
    by_cases h4 : b.pages.length = 4
    · by_cases hw : inB b.worn 0 200 = true
      · rw [if_neg (by simp [h4, hw])]
        rcases Bool.eq_false_or_eq_true (b.pages.all pageOkB) with h1 | h1 <;> rcases Bool.eq_false_or_eq_true (ordB false b.pages) with h2 | h2 <;> rcases Bool.eq_false_or_eq_true (fresh L (pseqs b.pages)) with h3 | h3 <;>
          simp [-List.all_eq_true, -List.all_eq_false, h1, h2, h3, h4, hw, scanF_eq f]
      · simp [h4, hw]
    · simp [h4]

theorem flashOkB_eq (f : List Block) : flashOkB f = (f.length == 4 && f.all blockB && fresh [] (seqs f)) := by
  unfold flashOkB
  rw [scanF_eq]
  split <;> simp_all

theorem fresh_iff : ∀ (xs L : List Int), fresh L xs = true ↔ xs.Nodup ∧ ∀ x ∈ xs, x ∉ L
  | [], L => by simp [fresh]
  | x :: xs, L => by
    rw [fresh, Bool.and_eq_true, fresh_iff xs]
    simp
    constructor
    · rintro ⟨h1, h2, h3⟩
      exact ⟨⟨fun h => absurd rfl (h3 x h).1, h2⟩, h1, fun y hy => (h3 y hy).2⟩
    · rintro ⟨⟨h1, h2⟩, h3, h4⟩
      exact ⟨h3, h2, fun y hy => ⟨fun e => h1 (e ▸ hy), h4 y hy⟩⟩

structure FlashOk (f : List Block) : Prop where
  len : f.length = 4
  blocks : ∀ b ∈ f, blockB b = true
  nd : (seqs f).Nodup
theorem flashOk_iff {f : List Block} : flashOkB f = true ↔ FlashOk f := by
  rw [flashOkB_eq]
  simp only [Bool.and_eq_true, beq_iff_eq, List.all_eq_true, fresh_iff]
  exact ⟨fun ⟨⟨h1, h2⟩, h3, _⟩ => ⟨h1, h2, h3⟩, fun ⟨h1, h2, h3⟩ => ⟨⟨h1, h2⟩, h3, fun _ _ h => by cases h⟩⟩

theorem blockB_iff {b : Block} : blockB b = true ↔ b.pages.length = 4 ∧ 0 ≤ b.worn ∧ b.worn ≤ 200 ∧ (∀ p ∈ b.pages, pageOkB p = true) ∧ ordB false b.pages = true := by
  simp only [blockB, Bool.and_eq_true, beq_iff_eq, inB_iff, List.all_eq_true]
  exact ⟨fun ⟨⟨⟨h1, h2, h3⟩, h4⟩, h5⟩ => ⟨h1, h2, h3, h4, h5⟩, fun ⟨h1, h2, h3, h4, h5⟩ => ⟨⟨⟨h1, h2, h3⟩, h4⟩, h5⟩⟩

/-! ### pages in order: the free ones last -/
theorem ordB_true : ∀ (ps : List Page), ordB true ps = true ↔ ∀ p ∈ ps, p.state = 0
  | [] => by simp [ordB]
  | p :: ps => by
    simp only [ordB, Bool.true_and, Bool.and_eq_true, Bool.not_eq_true', bne_eq_false_iff_eq]
    constructor
    · rintro ⟨h1, h2⟩
      rw [h1] at h2
      have := (ordB_true ps).1 h2
      simpa [h1] using this
    · intro h
      have h1 := h p (by simp)
      refine ⟨h1, ?_⟩
      rw [h1]; exact (ordB_true ps).2 fun q hq => h q (by simp [hq])

/-- pages in order are some that are not free, and then free ones -/
theorem ordB_split : ∀ (ps : List Page), ordB false ps = true ↔ ∃ k, k ≤ ps.length ∧ (∀ p ∈ ps.take k, p.state ≠ 0) ∧ ∀ p ∈ ps.drop k, p.state = 0
  | [] => by simp [ordB]
  | p :: ps => by
    simp only [ordB, Bool.false_and, Bool.not_false, Bool.true_and]
    by_cases h0 : p.state = 0
    · rw [show (p.state == 0) = true from by simpa using h0, ordB_true]
      constructor
      · intro h; exact ⟨0, by simp, by simp, by simpa [h0] using h⟩
      · rintro ⟨k, hk, h1, h2⟩
        cases k with
        | zero => intro q hq; exact h2 q (by simp [hq])
        | succ k => exact absurd h0 (h1 p (by simp))
    · rw [show (p.state == 0) = false from by simpa using h0, ordB_split ps]
      constructor
      · rintro ⟨k, hk, h1, h2⟩; exact ⟨k + 1, by simpa using hk, by simpa [h0] using h1, by simpa using h2⟩
      · rintro ⟨k, hk, h1, h2⟩
        cases k with
        | zero => exact absurd (h2 p (by simp)) h0
        | succ k => exact ⟨k, by simpa using hk, fun q hq => h1 q (by simp [hq]), by simpa using h2⟩

theorem cleanN_append (a b : List Page) : cleanN (a ++ b) = cleanN a + cleanN b := by
  have : ∀ (ps : List Page) (n : Int), ps.foldl cleanStep n = n + ps.foldl cleanStep 0 := by
    intro ps
    induction ps with
    | nil => intro n; simp
    | cons p ps ih =>
      intro n
      simp only [List.foldl_cons]
      rw [ih, ih (cleanStep 0 p)]
      unfold cleanStep; split <;> omega
  unfold cleanN
  rw [List.foldl_append, this b]
theorem cleanN_none {ps : List Page} (h : ∀ p ∈ ps, p.state ≠ 0) : cleanN ps = 0 := by
  induction ps with
  | nil => rfl
  | cons p ps ih =>
    have : cleanN (p :: ps) = cleanN [p] + cleanN ps := cleanN_append [p] ps
    rw [this, ih fun q hq => h q (by simp [hq])]
    simp [cleanN, cleanStep, h p (by simp)]
theorem cleanN_all {ps : List Page} (h : ∀ p ∈ ps, p.state = 0) : cleanN ps = ps.length := by
  induction ps with
  | nil => rfl
  | cons p ps ih =>
    have : cleanN (p :: ps) = cleanN [p] + cleanN ps := cleanN_append [p] ps
    rw [this, ih fun q hq => h q (by simp [hq])]
    simp [cleanN, cleanStep, h p (by simp)]; omega

/-- where the free pages begin -/
theorem free_at {ps : List Page} (h4 : ps.length = 4) (ho : ordB false ps = true) : (∀ p ∈ ps.take (4 - (cleanN ps).toNat), p.state ≠ 0) ∧ (∀ p ∈ ps.drop (4 - (cleanN ps).toNat), p.state = 0) ∧ 0 ≤ cleanN ps ∧ cleanN ps ≤ 4 := by
  obtain ⟨k, hk, h1, h2⟩ := (ordB_split ps).1 ho
  have hc : cleanN ps = ((4 - k : Nat) : Int) := by
    conv => lhs; rw [← List.take_append_drop k ps]
    rw [cleanN_append, cleanN_none h1, cleanN_all h2]; simp; omega
  rw [hc]
  have : 4 - ((4 - k : Nat) : Int).toNat = k := by omega
  rw [this]
  exact ⟨h1, h2, by omega, by omega⟩
end Go.Bu

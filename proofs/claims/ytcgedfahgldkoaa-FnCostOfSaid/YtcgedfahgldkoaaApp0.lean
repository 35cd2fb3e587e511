/- append of rows of steps that may be empty. -/
import Derived.Test.YtcgedfahgldkoaaSteps
set_option linter.unusedVariables false
set_option linter.unusedSimpArgs false
namespace Go.Bu
open Go Go.RowKit Go.Plan Go.Proofs

theorem run_append_zero {P : Program} (w : World) (t ty e : TypeId) (i : TypeInfo) (ht : P.underlying t = some (.slice e)) (hi : P.info? e = some i) (b : Option Addr) (n cap : Nat) (hnc : n ≤ cap) (x : Option Addr) (c : Nat) :
    (Builtin.append_ #[t, t] ty #[.slice b n cap, .slice x 0 c]).run P w = .ok (.slice b n cap) w := by
  cases x with
  | none => cases b <;> simp [Builtin.append_, run_underlying ht, sizeOf, typeInfo, hi, Builtin.lenOf, Builtin.firstCells, hnc, storeCells]
  | some a =>
    have hfc := run_firstCells_some (P := P) w i.size 0 a 0 c [] (by simp) (by simp)
    cases b <;> simp [Builtin.append_, run_underlying ht, sizeOf, typeInfo, hi, Builtin.lenOf, hfc, hnc, storeCells]

/-- append of a row of steps, empty or not, to another one -/
theorem wpList_appStepsA {w : World} {ops : Array Oper} {rest : List Oper} {o : Oper} {a : Act} {Q : Exit → Act → World → Prop} (hgd : o.guard = none) (s x : Operand)
    (ho : o.op = .call { callee := .builtin .append, args := #[s, x], argTypes := #[36, 36] }) {base base2 : Nat} {v u : Value} {xs ys : List Step} (hs : a.eval s = v) (hown : SRow base w v xs)
    (hx : a.eval x = u) (hu : SRow base2 w u ys) (hlen : xs.length + ys.length ≤ 1000000) (hbase : base ≤ w.heap.size)
    (h : ∀ v' w', SRow base w' v' (xs ++ ys) → w.grownBy w' v.ownBlock → wpList Try.prog ops Q rest (a.put o.dst v') w') : wpList Try.prog ops Q (o :: rest) a w := by
  by_cases hne : ys = []
  · subst hne
    obtain ⟨ua, uc, rfl⟩ := hu.form
    have hinfo : ∃ i, Try.prog.info? 54 = some i := by
      have : ((Try.prog.info? 54).isSome) = true := by kernel_rfl
      exact Option.isSome_iff_exists.1 this
    obtain ⟨i, hi⟩ := hinfo
    have hfin := h v w (by rw [List.append_nil]; exact hown) ⟨rfl, rfl, rfl, Nat.le_refl _, fun _ _ _ => rfl⟩
    have hv : ∃ b n cap, v = .slice b n cap ∧ n ≤ cap := by
      rcases hown.2 with ⟨rfl, h0⟩ | ⟨g, cap, cur, rfl, _, _, hc, _⟩
      · exact ⟨none, 0, 0, rfl, Nat.le_refl _⟩
      · exact ⟨_, _, cap, rfl, hc⟩
    obtain ⟨b, n, cap, rfl, hnc⟩ := hv
    refine wpList_plain hgd fun K hK' => ?_
    unfold Oper.wp
    simp [execOp, ho, resolve, invoke, builtin, hs, hx, run_append_zero w 36 o.type 54 i Try.underlying36 hi b n cap hnc ua uc, Result.andThen]
    exact hK' _ _ hfin
  · exact wpList_appSteps hgd s x ho hs hown hx hu hne hlen hbase h

/-- a row of steps made since base, or one that has no room -/
def OutRow (base : Nat) (w : World) (v : Value) (xs : List Step) : Prop := (∃ b, v = .slice (some b) 0 0 ∧ xs = []) ∨ SRow base w v xs
theorem OutRow.form {base : Nat} {w : World} {v : Value} {xs : List Step} (h : OutRow base w v xs) : ∃ a cap, v = .slice a xs.length cap := by
  rcases h with ⟨b, rfl, rfl⟩ | h
  · exact ⟨_, _, rfl⟩
  · exact h.form
theorem OutRow.steps {base : Nat} {w : World} {v : Value} {xs : List Step} (h : OutRow base w v xs) : Steps' (Old w) w v xs := by
  rcases h with ⟨b, rfl, rfl⟩ | h
  · exact ⟨_, _, rfl, fun i x hx => by simp at hx⟩
  · exact h.steps

theorem wpList_appOut {w : World} {ops : Array Oper} {rest : List Oper} {o : Oper} {a : Act} {Q : Exit → Act → World → Prop} (hgd : o.guard = none) (s x : Operand)
    (ho : o.op = .call { callee := .builtin .append, args := #[s, x], argTypes := #[36, 36] }) {base base2 : Nat} {v u : Value} {xs ys : List Step} (hs : a.eval s = v) (hown : OutRow base w v xs)
    (hx : a.eval x = u) (hu : SRow base2 w u ys) (hlen : xs.length + ys.length ≤ 1000000) (hbase : base ≤ w.heap.size)
    (h : ∀ v' w' ob, OutRow base w' v' (xs ++ ys) → w.grownBy w' ob → (∀ g, ob = some g → base ≤ g ∧ g < w.heap.size) → wpList Try.prog ops Q rest (a.put o.dst v') w') : wpList Try.prog ops Q (o :: rest) a w := by
  rcases hown with ⟨b, rfl, rfl⟩ | hown
  · have hinfo : ((Try.prog.info? 54).bind (fun i => i.zero.map fun z => (z.cells.size, i.size, i.bytes))) = some (8, 8, 64) := by kernel_rfl
    obtain ⟨i, hi, hi2⟩ := Option.bind_eq_some_iff.1 hinfo
    obtain ⟨z, hz, he⟩ := Option.map_eq_some_iff.1 hi2
    obtain ⟨hzs, he⟩ := Prod.mk.inj he
    obtain ⟨hsize, hby⟩ := Prod.mk.inj he
    by_cases hne : ys = []
    · subst hne
      obtain ⟨ua, uc, rfl⟩ := hu.form
      have hfin := h _ w none (.inl ⟨b, rfl, rfl⟩) ⟨rfl, rfl, rfl, Nat.le_refl _, fun _ _ _ => rfl⟩ (fun g hg => by cases hg)
      refine wpList_plain hgd fun K hK' => ?_
      unfold Oper.wp
      simp [execOp, ho, resolve, invoke, builtin, hs, hx, run_append_zero w 36 o.type 54 i Try.underlying36 hi (some b) 0 0 (Nat.le_refl _) ua uc, Result.andThen]
      exact hK' _ _ hfin
    · have hu2 := hu
      rcases hu.2 with ⟨rfl, h0⟩ | ⟨g, cap, cur, rfl, _, hh, _, _, _, ht⟩
      · exact absurd (List.length_eq_zero_iff.1 h0) hne
      have h1c : ∀ c ∈ ys.flatMap stepC, c.oneCell' = true := fun c hc => by
        obtain ⟨y, _, hy⟩ := List.mem_flatMap.1 hc
        simp at hy
        rcases hy with rfl | rfl | rfl | rfl | rfl | rfl | rfl | rfl <;> rfl
      have hpos : 0 < ys.length := List.length_pos_iff.2 hne
      simp only [List.length_nil, Nat.zero_add] at hlen
      obtain ⟨v', w', hr, h2, h3⟩ := run_append_arg_grows (P := Try.prog) w 36 o.type 54 i z 8 64 Try.underlying36 hi hz hsize hby hzs (by omega) b 0 0 [] rfl (by simp) ⟨g, 0, none⟩ ys.length cap (ys.flatMap stepC) hu2.1 (hu2.cells rfl) (by omega) (by simp [maxLen]; omega) (by omega)
      have hfin := h v' w' none (.inr (by
        rw [List.nil_append] at h2 ⊢
        rw [Nat.zero_add] at h2
        exact SRow.base h2 hbase)) h3 (fun g hg => by cases hg)
      refine wpList_plain hgd fun K hK' => ?_
      unfold Oper.wp
      simp [execOp, ho, resolve, invoke, builtin, hs, hx, hr, Result.andThen]
      exact hK' _ _ hfin
  · exact wpList_appStepsA hgd s x ho hs hown hx hu hlen hbase fun v' w' h1 h2 => h v' w' _ (.inr h1) h2 fun g hg => hown.lt g hg
end Go.Bu

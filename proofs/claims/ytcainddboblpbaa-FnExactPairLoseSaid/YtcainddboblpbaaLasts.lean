/- The program's lastRecords: the last record of each address, in a map. -/
import Derived.Test.YtcainddboblpbaaSpans
import Derived.Maps.OwnIn
set_option linter.unusedVariables false
set_option linter.unusedSimpArgs false
namespace Go.Bu
open Go Go.RowKit Go.Plan Go.Proofs Go.Shelf
attribute [local go_sem] Oper.semAt_some

def lastL (xs : List Spot) (a : Int) : Rec := xs.foldl (fun r x => lastStep a r x.2.2) rec0
theorem lastL_snoc (xs : List Spot) (x : Spot) (a : Int) : lastL (xs ++ [x]) a = lastStep a (lastL xs a) x.2.2 := by unfold lastL; rw [List.foldl_append]; rfl
theorem spB_pages (i : Nat) (ps : List Page) : (spB i ps ps.length).map (·.2.2) = ps := by
  unfold spB
  rw [List.map_map]
  apply List.ext_getElem
  · simp
  · intro k h1 h2
    simp [List.getElem?_eq_getElem h2]
theorem spF_pages (f : List Block) : ∀ i, i ≤ f.length → (spF f i).map (·.2.2) = (f.take i).flatMap (·.pages) := by
  intro i
  induction i with
  | zero => intro _; rfl
  | succ i ih => intro h; rw [spF_succ f i (by omega), List.map_append, ih (by omega), spB_pages, ← take_snoc f i (by omega), List.flatMap_append]; simp
theorem lastL_all (f : List Block) (a : Int) : lastL (spF f f.length) a = last f a := by
  have h := spF_pages f f.length (Nat.le_refl _)
  rw [List.take_length] at h
  have h1 : lastL (spF f f.length) a = ((spF f f.length).map (·.2.2)).foldl (lastStep a) rec0 := by unfold lastL; rw [List.foldl_map]
  rw [h1, h, List.foldl_flatMap]; rfl
theorem lastL_zero (xs : List Spot) (a : Int) : lastL xs a = rec0 ∨ 0 < (lastL xs a).seq := by
  have : ∀ (xs : List Spot) (r : Rec), (r = rec0 ∨ 0 < r.seq) → (xs.foldl (fun r x => lastStep a r x.2.2) r = rec0 ∨ 0 < (xs.foldl (fun r x => lastStep a r x.2.2) r).seq) := by
    intro xs
    induction xs with
    | nil => exact fun r h => h
    | cons x xs ih =>
      intro r h
      rw [List.foldl_cons]
      refine ih _ ?_
      unfold lastStep
      split
      · rename_i hc
        rcases h with rfl | h
        · have : (0 : Int) < x.2.2.r.seq := hc.2.2
          exact .inr this
        · exact .inr (by omega)
      · exact h
  exact this xs rec0 (.inl rfl)
def lastG (l : Int → Rec) (a : Int) : Option Value := if 0 < (l a).seq then some (recA (l a)) else none
theorem lastG_get {xs : List Spot} (a : Int) : (lastG (lastL xs) a).getD (recA rec0) = recA (lastL xs a) := by
  unfold lastG
  rcases lastL_zero xs a with h | h
  · rw [h]; rfl
  · rw [if_pos h]; rfl
theorem lastG_none {xs : List Spot} {x : Spot} (h : ¬ (x.2.2.state = 1 ∧ (lastL xs x.2.2.r.addr).seq < x.2.2.r.seq)) : lastG (lastL (xs ++ [x])) = lastG (lastL xs) := by
  funext a
  have : lastL (xs ++ [x]) a = lastL xs a := by
    rw [lastL_snoc]; unfold lastStep
    rw [if_neg]
    rintro ⟨h1, h2, h3⟩
    exact h ⟨h1, by rw [h2]; exact h3⟩
  unfold lastG; rw [this]
theorem lastG_some {xs : List Spot} {x : Spot} (h1 : x.2.2.state = 1) (h2 : (lastL xs x.2.2.r.addr).seq < x.2.2.r.seq) : (fun z => if z = x.2.2.r.addr then some (recA x.2.2.r) else lastG (lastL xs) z) = lastG (lastL (xs ++ [x])) := by
  funext a
  by_cases ha : a = x.2.2.r.addr
  · subst ha
    have h0 : 0 < x.2.2.r.seq := by
      rcases lastL_zero xs x.2.2.r.addr with h | h
      · rw [h] at h2; exact h2
      · omega
    have e : lastStep x.2.2.r.addr (lastL xs x.2.2.r.addr) x.2.2 = x.2.2.r := by unfold lastStep; exact if_pos ⟨h1, rfl, h2⟩
    rw [if_pos rfl]; unfold lastG; rw [lastL_snoc, e, if_pos h0]
  · have e : lastStep a (lastL xs a) x.2.2 = lastL xs a := by unfold lastStep; exact if_neg (fun h => ha h.2.1.symm)
    rw [if_neg ha]; unfold lastG; rw [lastL_snoc, e]
theorem pageOk_addr {p : Page} (h : pageOkB p = true) : 0 ≤ p.r.addr ∧ p.r.addr ≤ 6 := by
  unfold pageOkB at h
  by_cases hs : p.state = 1
  · rw [if_pos hs] at h
    simp only [recOkB, Bool.and_eq_true, inB_iff] at h
    omega
  · rw [if_neg hs] at h
    simp only [recZ, Bool.and_eq_true, beq_iff_eq] at h
    omega

theorem Chg.of_grown {w w' : World} {b : Nat} (h : w.grownBy w' (some b)) : Chg [b] w w' := ⟨h.os, h.tape, h.output, h.size, fun k hk hn => h.block k hk fun e => by cases e; exact hn (by simp)⟩

theorem wpListIn_mapUpd {F : Fence} {n : Nat} {P : Program} {k e t : TypeId} {w : World} {b m : Nat} {g : Int → Option Value} {ops : Array Oper} {rest : List Oper} {o : Oper} {a : Act} {Q : Exit → Act → World → Prop} (hg : o.guard = none) (mm x v : Operand) (hop : o.op = Op.mapUpdate t mm x v)
    (hk : P.underlying k = some (.int .i64)) (ht : P.underlying t = some (.map k e)) (hm : a.eval mm = .map (some b)) (h : MapOf P k w b m g) (hn : m < maxLen) {y : Int} (hx : a.eval x = .int .i64 y) (hy : (Lit.int .i64 y).wf = true) {val : Value} (hv : a.eval v = val)
    (hK : ∀ w', MapOf P k w' b (m + 1) (fun z => if z = y then some val else g z) → w.grownBy w' (some b) → wpListIn F n P ops Q rest (a.put o.dst undef) w') : wpListIn F n P ops Q (o :: rest) a w := by
  refine wpListIn_plain hg fun K' hK' => ?_
  obtain ⟨w', hrun, r1, r2⟩ := h.update hk ht hn hy val
  unfold Oper.wpIn
  refine ⟨?_, ?_⟩
  · simp [Oper.about, hop]
  · rw [Oper.semAt_plain F _ _ (by rw [hop]; intro c h; cases h)]
    simp [execOp, hop, hm, hx, hv, hrun, Result.andThen, Oper.uponIn]
    exact hK' _ _ (hK w' r1 r2)

def LastΦ (w : World) (l : Int → Rec) (e : Ending) (w' : World) : Prop := ∃ b n, e = .returned (.map (some b)) ∧ Ext w w' ∧ w.heap.size ≤ b ∧ MapOf Try.prog 3 w' b n (lastG l)

set_option maxRecDepth 20000 in
set_option maxHeartbeats 4000000 in
theorem lastRecords_c (v : Value) (f : List Block) (w : World) (h : Flash (Old w) w v f) (h4 : f.length = 4) (hp : ∀ b ∈ f, b.pages.length ≤ 1048576) (hs : ∀ b ∈ f, ∀ p ∈ b.pages, pageOkB p = true) :
    Calls Try.prog 48 #[v] w (LastΦ w (last f)) := by
  obtain ⟨a, cap, rfl⟩ := h.form
  rw [h4] at h ⊢
  have H4 := Lib.hid h4
  have HP := Lib.hid hp
  have HS := Lib.hid hs
  clear hp hs h4
  have hmm := @run_makeMap Try.prog
  have hfld : ∀ (w : World) (a b c d : Int), (Instr.field 72 (.agg #[.int .i64 a, .int .i64 b, .int .i64 c, .int .i64 d]) 1).run Try.prog w = .ok (.int .i64 b) w := fun _ _ _ _ _ => by kernel_rfl
  refine (callsIn_wide (n := 9)).1 ?_
  refine callsIn_of_wp_marks Try.func48 rfl trivial ?_ rfl
  simp only [Try.ntmps48, List.size_toArray, List.length_cons, List.length_nil, Nat.reduceAdd, Nat.reduceSub, Array.replicate_succ, Array.replicate_zero, List.push_toArray, List.append_toArray, List.nil_append, List.cons_append]
  gi_wp2_with (refine ⟨trivial, ?_⟩; gi_at_call 75; refine (callsIn_wide.2 (eachPage_c _ _ _ _)).mono ?_; rintro e w' ⟨rfl, rfl⟩)
  clear hmm
  have XW : Ext w (((w.alloc (.map #[] 0)).alloc (.cells #[.map (some w.heap.size)] 69)).alloc (.cells #[.slice a 4 cap] 30)) := ext_alloc (ext_alloc (ext_alloc (ext_refl _) _) _) _
  obtain ⟨W0, hW0⟩ : ∃ W0, ((w.alloc (.map #[] 0)).alloc (.cells #[.map (some w.heap.size)] 69)).alloc (.cells #[.slice a 4 cap] 30) = W0 := ⟨_, rfl⟩
  have G0 : MapOf Try.prog 3 W0 w.heap.size 0 (fun _ => none) := by rw [← hW0]; exact ((MapOf.made _ _ w).alloc2).alloc2
  have G1 : W0.heap[w.heap.size + 1]? = some (.cells #[.map (some w.heap.size)] 69 (0, 0)) := by rw [← hW0]; exact hg_alloc (hg_new (by simp))
  have G2 : W0.heap[w.heap.size + 2]? = some (.cells #[.slice a 4 cap] 30 (0, 0)) := by rw [← hW0]; exact hg_new (by simp)
  have hs0 : W0.heap.size = w.heap.size + 3 := by rw [← hW0]; simp
  rw [hW0] at XW ⊢
  have HD : ∀ i, (i < w.heap.size ∨ i = w.heap.size + 2) → i < W0.heap.size := fun i hi => by omega
  have HS0 := Lib.hid hs0
  clear hs0 hW0
  have hN : (spF f f.length).length ≤ 4194304 := by
    have : ∀ i, i ≤ f.length → (spF f i).length ≤ i * 1048576 := by
      intro i; induction i with
      | zero => intro _; simp [spF]
      | succ i ih => intro hi; rw [spF_len_succ f i (by omega)]; have := ih (by omega); have := HP.out f[i] (List.getElem_mem _); omega
    have := this f.length (Nat.le_refl _); have := H4.out; omega
  have HN := Lib.hid hN
  clear hN
  refine wpIn_rangeFunc_ownH rfl (by omega) (gf := 97) (lb := #[.pointer (some ⟨w.heap.size + 2, 0, none⟩)]) rfl trivial (enters_of Try.func97 (by kernel_rfl) rfl)
    (each_stops 8 (by omega) (fun i => i < w.heap.size ∨ i = w.heap.size + 2) (w.heap.size + 2) (.slice a 4 cap) f W0 (cell_block G2 0) (.inr rfl) HD (Sl.same blockE_kept h (same_old XW) (fun b hb => .inl hb)) (by rw [H4.out]; omega) HP.out)
    (fun h k => h.trans k) (fun W l o o' hl _ _ _ => KpD.put HD W l o o' hl) (Below.refl _ _) (fun _ => rfl)
    (fun pre W => (∃ n, n ≤ pre.length ∧ MapOf Try.prog 3 W w.heap.size n (lastG (lastL (pre.map (·.1))))) ∧ W.heap[w.heap.size + 1]? = some (.cells #[.map (some w.heap.size)] 69 (0, 0)) ∧ Ext w W ∧ W0.heap.size ≤ W.heap.size)
    (fun _ _ _ => False) ?hI (fun _ _ _ _ _ h _ _ => h.elim) ?h0
    (fun x a' W => ∃ By, W0.heap.size ≤ By ∧ W.heap[By]? = some (.cells (pageC x.1.2.2).toArray 99 (0, 0)) ∧
      a' = { tmps := #[.slice a 4 cap, undef, .map none, .pointer (some ⟨w.heap.size + 1, 0, none⟩), undef, .pointer (some ⟨By, 0, none⟩), .map (some w.heap.size), .slice a 4 cap, .func (.func 97) #[] #[.pointer (some ⟨w.heap.size + 2, 0, none⟩)], .agg #[.int .i64 x.1.1, .int .i64 x.1.2.1], pageA x.1.2.2, undef, undef, undef, undef, undef, undef, undef, undef, undef, undef, undef, undef, undef, undef, undef, undef, undef, undef, undef, undef, undef, undef], defers := [] })
    ?hAx ?assign ?body ?done ?stop
  case hI =>
    rintro s X Y row ⟨⟨n, hn, h1⟩, h2, h3, h4⟩ hg hr
    have hx := grown_ext h3 (fun g hg' => by have := (hr g hg').1; have := XW.size; omega) hg
    exact ⟨⟨n, hn, h1.kept hg fun e => by have := (hr _ e.symm).1; have := HS0.out; omega⟩, cells_own h2 hg hr, hx, Nat.le_trans h4 hg.size⟩
  case h0 =>
    refine ⟨⟨0, Nat.le_refl _, ?_⟩, G1, XW, Nat.le_refl _⟩
    have : lastG (lastL (([] : List (SpotIn f)).map (·.1))) = fun _ => none := by funext z; rfl
    rw [this]; exact G0
  case hAx =>
    rintro x a' s X Y row ⟨By, h2, h4, h5⟩ hg hr
    exact ⟨By, h2, cells_own h4 hg hr, h5⟩
  case stop => rintro D c pre W _ _ h; exact h.elim
  case assign =>
    rintro l pre ⟨⟨i, j, p⟩, hin⟩ W K ⟨⟨n, hn, h1⟩, h2, h3, h4⟩ hK
    simp only [encS]
    gi_wp2
    have hx : Ext W (W.alloc (.cells (pageC p).toArray 99)) := ext_alloc (ext_refl _) _
    exact hK _ _ ((KeepsOthers.alloc _ _).from _) (KpD.of_below hx fun b hb => Nat.lt_of_lt_of_le (HD b hb) h4) ⟨⟨n, hn, h1.ext hx⟩, keep_ext hx h2, ext_trans h3 hx, Nat.le_trans h4 hx.size⟩
      ⟨W.heap.size, h4, hg_new rfl, rfl⟩
  case done =>
    rintro D xs W hD hS ⟨⟨n, hn, h1⟩, h2, h3, h4⟩ hK
    obtain ⟨g3, gf3⟩ := cellsK h2
    gi_wp2
    refine ⟨by simp, .inl ⟨_, _, rfl, run_takeDeferred hK, ?_⟩⟩
    refine ⟨_, results_tmp rfl _ _ _, w.heap.size, n, rfl, ?_, Nat.le_refl _, ?_⟩
    · exact grown_ext h3 (fun g hg => by cases hg; have := HS0.out; omega) (grownBy_putObj' W D _)
    · have hl : lastL (xs.map (·.1)) = last f := by funext z; rw [hS]; exact lastL_all f z
      rw [hl] at h1
      exact h1.kept (grownBy_putObj' W D _) (by have := HS0.out; simp; omega)
  case body =>
    rintro l pre ⟨⟨i, j, p⟩, hin⟩ a' W hl ⟨r, hr⟩ ⟨⟨n, hn, h1⟩, h2, h3, h4⟩ ⟨By, hB2, g5, rfl⟩ hlt
    have hpo : pageOkB p = true := by
      obtain ⟨b, hb, hp⟩ := hin
      exact HS.out b (List.mem_of_getElem? hb) p (List.mem_of_getElem? hp)
    have hsq := pageOk_seq hpo
    have had := pageOk_addr hpo
    have hwf := i64_wf (x := p.r.addr) (by omega) (by omega)
    have hn2 : n < maxLen := by have := HN.out; unfold maxLen; omega
    have HM : Hid (((pre ++ [⟨(i, j, p), hin⟩] : List (SpotIn f)).map (·.1)) = pre.map (·.1) ++ [(i, j, p)]) := Lib.hid (by rw [List.map_append]; rfl)
    have hlk := h1.lookup (t := 69) Try.underlying3 Try.underlying69 (z := recA rec0) (by rfl) hwf false
    rw [lastG_get] at hlk
    simp only [Bool.false_eq_true, if_false] at hlk
    dsimp only [recA] at hlk
    have HNO := fun h => Lib.hid (lastG_none (xs := pre.map (·.1)) (x := (i, j, p)) h)
    have HYES := fun h h' => Lib.hid (lastG_some (xs := pre.map (·.1)) (x := (i, j, p)) h h')
    dsimp only at HNO HYES
    generalize lastL (pre.map (·.1)) = ll at *
    dsimp only at g5
    obtain ⟨q5, qf5⟩ := cellsK g5
    obtain ⟨q3, qf3⟩ := cellsK h2
    by_cases hst : p.state = 1
    · by_cases hgt : (ll p.r.addr).seq < p.r.seq
      · have HM2 := HYES hst hgt
        have H1 := Lib.hid h1
        clear HNO HYES h1
        gi_wp2_with (gi_at_mapUpdate; refine wpListIn_mapUpd rfl _ _ _ rfl Try.underlying3 Try.underlying69 rfl H1.out hn2 rfl hwf (val := recA p.r) rfl (fun w5 hM5 hg5 => ?_))
        have hC := Chg.of_grown hg5
        rw [HM2.out, ← HM.out] at hM5
        clear hlk
        gi_wp2
        exact ⟨KeepsFrom.of_chg hC (by have := HS0.out; simp; omega), KpD.of_chg hC (fun b hb => ⟨Nat.lt_of_lt_of_le (HD b hb) h4, by simp; omega⟩), ⟨n + 1, by simp; omega, hM5⟩, hC.keep h2 (by simp), Chg.ext h3 hC (by simp), Nat.le_trans h4 hC.size⟩
      · have HM2 := HNO (fun h => hgt h.2)
        have H1 := Lib.hid h1
        clear HNO HYES h1
        gi_wp2
        refine ⟨(KeepsOthers.refl _).from _, ⟨Nat.le_refl _, fun _ _ => rfl⟩, ⟨n, by simp; omega, ?_⟩, h2, h3, h4⟩
        rw [HM.out, HM2.out]; exact H1.out
    · have HM2 := HNO (fun h => hst h.1)
      have H1 := Lib.hid h1
      clear HNO HYES h1
      gi_wp2
      refine ⟨(KeepsOthers.refl _).from _, ⟨Nat.le_refl _, fun _ _ => rfl⟩, ⟨n, by simp; omega, ?_⟩, h2, h3, h4⟩
      rw [HM.out, HM2.out]; exact H1.out
end Go.Bu

/- Writing, wiping, and whatever an event does, leaves a flash well formed. -/
import Derived.Test.YtcainddboblpbaaFlashLaw
set_option linter.unusedVariables false
set_option linter.unusedSimpArgs false
namespace Go.Bu
open Go Go.RowKit Go.Plan Go.Proofs

theorem pseqs_append (a b : List Page) : pseqs (a ++ b) = pseqs a ++ pseqs b := List.filterMap_append
theorem seqs_append (a b : List Block) : seqs (a ++ b) = seqs a ++ seqs b := List.flatMap_append
theorem split_at {α : Type} (xs : List α) (i : Nat) (h : i < xs.length) : xs = xs.take i ++ xs[i] :: xs.drop (i + 1) := by
  conv => lhs; rw [← List.take_append_drop i xs, List.drop_eq_getElem_cons h]
theorem set_at {α : Type} (xs : List α) (i : Nat) (h : i < xs.length) (y : α) : xs.set i y = xs.take i ++ y :: xs.drop (i + 1) := by
  rw [List.set_eq_take_append_cons_drop, if_pos h]
theorem seqs_at (f : List Block) (i : Nat) (h : i < f.length) : seqs f = seqs (f.take i) ++ (pseqs f[i].pages ++ seqs (f.drop (i + 1))) := by
  conv => lhs; rw [split_at f i h]
  rw [seqs_append]; rfl
theorem seqs_set (f : List Block) (i : Nat) (h : i < f.length) (b : Block) : seqs (f.set i b) = seqs (f.take i) ++ (pseqs b.pages ++ seqs (f.drop (i + 1))) := by
  rw [set_at f i h, seqs_append]; rfl
theorem pseqs_cons (p : Page) (ps : List Page) : pseqs (p :: ps) = (seqOf p).toList ++ pseqs ps := by
  unfold pseqs; rw [List.filterMap_cons]; cases seqOf p <;> rfl
theorem pseqs_at (ps : List Page) (k : Nat) (h : k < ps.length) : pseqs ps = pseqs (ps.take k) ++ ((seqOf ps[k]).toList ++ pseqs (ps.drop (k + 1))) := by
  conv => lhs; rw [split_at ps k h]
  rw [pseqs_append, pseqs_cons]
theorem pseqs_set (ps : List Page) (k : Nat) (h : k < ps.length) (p : Page) : pseqs (ps.set k p) = pseqs (ps.take k) ++ ((seqOf p).toList ++ pseqs (ps.drop (k + 1))) := by
  rw [set_at ps k h, pseqs_append, pseqs_cons]

theorem mem_pseqs {ps : List Page} {n : Int} : n ∈ pseqs ps ↔ ∃ p ∈ ps, p.state = 1 ∧ p.r.seq = n := by
  unfold pseqs seqOf
  rw [List.mem_filterMap]
  constructor
  · rintro ⟨p, hp, h⟩
    split at h
    · exact ⟨p, hp, ‹_›, Option.some.inj h⟩
    · cases h
  · rintro ⟨p, hp, h1, h2⟩
    exact ⟨p, hp, by rw [if_pos h1, h2]⟩
theorem mem_seqs {f : List Block} {n : Int} : n ∈ seqs f ↔ ∃ b ∈ f, ∃ p ∈ b.pages, p.state = 1 ∧ p.r.seq = n := by
  unfold seqs
  rw [List.mem_flatMap]
  constructor
  · rintro ⟨b, hb, h⟩; exact ⟨b, hb, mem_pseqs.1 h⟩
  · rintro ⟨b, hb, h⟩; exact ⟨b, hb, mem_pseqs.2 h⟩
theorem seqUsed_iff {f : List Block} {n : Int} : seqUsed f n = true ↔ n ∈ seqs f := by
  rw [mem_seqs]
  unfold seqUsed isSeq
  simp only [List.any_eq_true, Bool.and_eq_true, beq_iff_eq]

theorem FlashOk.bl {f : List Block} (h : FlashOk f) {i : Nat} (hi : i < 4) : ∃ hl : i < f.length, blockB f[i] = true :=
  ⟨by rw [h.len]; exact hi, h.blocks _ (List.getElem_mem _)⟩

theorem blockB_free {b : Block} (h : blockB b = true) : (∀ p ∈ b.pages.take (4 - (cleanN b.pages).toNat), p.state ≠ 0) ∧ (∀ p ∈ b.pages.drop (4 - (cleanN b.pages).toNat), p.state = 0) ∧ 0 ≤ cleanN b.pages ∧ cleanN b.pages ≤ 4 := by
  obtain ⟨h1, h2, h3, h4, h5⟩ := blockB_iff.1 h
  exact free_at h1 h5

theorem pageW_ok {r : Rec} (hr : recOkB r = true) (t : Bool) : pageOkB (pageW r t) = true ∧ (pageW r t).state ≠ 0 := by
  cases t
  · exact ⟨by simp [pageW, pageOkB, hr], by simp [pageW]⟩
  · exact ⟨by simp [pageW, pageOkB, recZ, rec0], by simp [pageW]⟩

/-- the first free page of a block, written -/
theorem blockB_write {b : Block} (h : blockB b = true) {p : Page} (hp : pageOkB p = true) (hs : p.state ≠ 0) (hc : cleanN b.pages ≠ 0) : blockB ⟨b.pages.set (4 - (cleanN b.pages).toNat) p, b.worn⟩ = true := by
  obtain ⟨h1, h2, h3, h4, h5⟩ := blockB_iff.1 h
  obtain ⟨f1, f2, f3, f4⟩ := blockB_free h
  generalize hk : 4 - (cleanN b.pages).toNat = k at *
  have hk4 : k < b.pages.length := by omega
  refine blockB_iff.2 ⟨by simpa using h1, h2, h3, fun q hq => ?_, (ordB_split _).2 ⟨k + 1, by simp; omega, fun q hq => ?_, fun q hq => ?_⟩⟩
  · rcases mem_set hq with hq | rfl
    · exact h4 q hq
    · exact hp
  · rw [set_at _ _ hk4, List.take_append] at hq
    simp at hq
    rcases hq with hq | hq
    · exact f1 q (List.mem_of_mem_take hq)
    · have : min k b.pages.length = k := by omega
      rw [this] at hq
      simp at hq
      rw [hq]; exact hs
  · rw [set_at _ _ hk4, List.drop_append] at hq
    have hm : (b.pages.take k).length = k := by simp; omega
    rw [hm, List.drop_eq_nil_of_le (by omega), show k + 1 - k = 1 by omega] at hq
    simp only [List.nil_append, List.drop_succ_cons, List.drop_zero] at hq
    exact f2 q (by rw [List.drop_eq_getElem_cons hk4]; exact List.mem_cons_of_mem _ hq)

theorem clean_seq {p : Page} (h : p.state = 0) : seqOf p = none := by unfold seqOf; rw [if_neg (by omega)]

theorem FlashOk.write {f : List Block} (h : FlashOk f) {i : Nat} (hi : i < 4) {r : Rec} (hr : recOkB r = true) (t : Bool) : FlashOk (writeF f i r t) := by
  obtain ⟨hl, hb⟩ := h.bl hi
  unfold writeF writeOk
  rw [blockAt_get hl]
  split
  · rename_i hc
    simp only [Bool.not_eq_true', Bool.or_eq_false_iff, decide_eq_false_iff_not] at hc
    obtain ⟨hc, hs⟩ := hc
    obtain ⟨p1, p2⟩ := pageW_ok hr t
    obtain ⟨f1, f2, f3, f4⟩ := blockB_free hb
    have h4 := (blockB_iff.1 hb).1
    refine ⟨by simpa using h.len, fun b hm => ?_, ?_⟩
    · rcases mem_set hm with hm | rfl
      · exact h.blocks b hm
      · exact blockB_write hb p1 p2 hc
    · have hk4 : 4 - (cleanN f[i].pages).toNat < f[i].pages.length := by omega
      have hnd := h.nd
      have hz : seqOf f[i].pages[4 - (cleanN f[i].pages).toNat] = none := clean_seq (f2 _ (by rw [List.drop_eq_getElem_cons hk4]; exact List.mem_cons_self))
      rw [seqs_at f i hl, pseqs_at _ _ hk4, hz] at hnd
      rw [seqs_set f i hl, pseqs_set _ _ hk4]
      cases t
      · have hn : r.seq ∉ seqs f := fun hm => by rw [seqUsed_iff.2 hm] at hs; cases hs
        rw [seqs_at f i hl, pseqs_at _ _ hk4, hz] at hn
        simp only [Option.toList_none, List.nil_append] at hn hnd
        have hq : seqOf (pageW r false) = some r.seq := rfl
        rw [hq]
        simp only [Option.toList_some, List.singleton_append]
        rw [List.append_assoc, List.cons_append, ← List.append_assoc (seqs _) (pseqs _)]
        rw [List.append_assoc, ← List.append_assoc (seqs _) (pseqs _)] at hn hnd
        exact (List.perm_middle.nodup_iff).2 (List.nodup_cons.2 ⟨hn, hnd⟩)
      · have hq : seqOf (pageW r true) = none := rfl
        rw [hq]; exact hnd
  · exact h

theorem FlashOk.wipe {f : List Block} (h : FlashOk f) {i : Nat} (hi : i < 4) (t : Bool) : FlashOk (wipeF f i t) := by
  obtain ⟨hl, hb⟩ := h.bl hi
  unfold wipeF
  rw [blockAt_get hl]
  split
  · exact h
  · rename_i hw
    obtain ⟨h1, h2, h3, h4, h5⟩ := blockB_iff.1 hb
    have hbl : ∀ st, (blank st).r = rec0 := fun _ => rfl
    refine ⟨by simpa using h.len, fun b hm => ?_, ?_⟩
    · rcases mem_set hm with hm | rfl
      · exact h.blocks b hm
      · refine blockB_iff.2 ⟨rfl, by dsimp only; omega, by dsimp only; omega, fun p hp => ?_, ?_⟩
        · obtain rfl := List.eq_of_mem_replicate hp
          cases t <;> rfl
        · cases t <;> rfl
    · have hnd := h.nd
      rw [seqs_at f i hl] at hnd
      rw [seqs_set f i hl]
      refine List.Nodup.sublist ?_ hnd
      refine List.Sublist.append (List.Sublist.refl _) (List.Sublist.append ?_ (List.Sublist.refl _))
      have : pseqs (List.replicate 4 (blank (tornSt t))) = [] := by cases t <;> rfl
      rw [this]; exact List.nil_sublist _

/-- a step that is valid -/
structure StepOk (x : Step) : Prop where
  fit : Fit x
  r : x.kind = 3 → recOkB x.r = true
theorem StoreP.step {s : Store} (h : StoreP s) {x : Step} (hx : StepOk x) (t : Bool) : StoreP (doStep s x t) := by
  have hf := flashOk_iff.1 h.flash
  unfold doStep
  by_cases h1 : x.kind = 1
  · rw [if_pos h1]; split
    · exact h
    · exact ⟨h.flash, by simp [h.disk]⟩
  · have hb := hx.fit.block h1
    rw [if_neg h1]; split
    · exact ⟨flashOk_iff.2 (hf.wipe (by omega) t), h.disk⟩
    · split
      · exact ⟨flashOk_iff.2 (hf.write (by omega) (hx.r ‹_›) t), h.disk⟩
      · exact h
theorem StoreP.shape {s : Store} (h : StoreP s) : Shape s :=
  ⟨flashOk_len h.flash, fun b hb => (flashOk_block h.flash hb).1, fun b hb => by have := flashOk_block h.flash hb; omega, h.disk⟩
theorem StoreP.all {xs : List Step} {s : Store} (h : StoreP s) (hx : ∀ x ∈ xs, StepOk x) : StoreP (doAll s xs) :=
  foldl_inv (fun s x => doStep s x false) StoreP xs s h fun s x hm hs => hs.step (hx x hm) false
theorem StoreP.to {xs : List Step} {s : Store} (h : StoreP s) (hx : ∀ x ∈ xs, StepOk x) (cut : Int) (t : Bool) : StoreP (toSteps s xs cut t) := by
  have h1 := h.all (xs := xs.take cut.toNat) fun x hm => hx x (List.mem_of_mem_take hm)
  unfold toSteps
  split
  · rename_i hc
    simp only [Bool.and_eq_true, decide_eq_true_eq] at hc
    have hl : cut.toNat < xs.length := by omega
    rw [List.getElem?_eq_getElem hl]
    exact h1.step (hx _ (List.getElem_mem _)) true
  · exact h1

theorem openScan_lt (f : List Block) : ∀ (rest : List Block) (i : Nat) (out : Int), i + rest.length = f.length → -1 ≤ out → out < f.length → (openScan f i out rest).2 = true → 0 ≤ (openScan f i out rest).1 ∧ (openScan f i out rest).1 < f.length
  | [], i, out, hl, h0, h1, h2 => by
    simp only [openScan, decide_eq_true_eq] at h2 ⊢
    split <;> omega
  | b :: rest, i, out, hl, h0, h1, h2 => by
    simp only [List.length_cons] at hl
    rw [openScan] at h2 ⊢
    split
    · dsimp only; omega
    · rename_i hc
      rw [if_neg hc] at h2
      refine openScan_lt f rest (i + 1) _ (by omega) ?_ ?_ h2
      · unfold openStep; split <;> omega
      · unfold openStep; split <;> omega
theorem openB_lt {f : List Block} (h : (openB f).2 = true) : 0 ≤ (openB f).1 ∧ (openB f).1 < f.length := openScan_lt f f 0 (-1) (by simp) (by omega) (by omega) h

theorem liveP_ok {f : List Block} (h : FlashOk f) {b : Block} (hb : b ∈ f) {p : Page} (hp : p ∈ b.pages) (hl : p.state = 1) : recOkB p.r = true := by
  have := (blockB_iff.1 (h.blocks b hb)).2.2.2.1 p hp
  unfold pageOkB at this
  rwa [if_pos hl] at this
theorem recOkB_iff {r : Rec} : recOkB r = true ↔ (1 ≤ r.kind ∧ r.kind ≤ 2) ∧ (1 ≤ r.seq ∧ r.seq ≤ 600) ∧ (1 ≤ r.addr ∧ r.addr ≤ 6) ∧ (0 ≤ r.val ∧ r.val ≤ 9) := by
  simp only [recOkB, Bool.and_eq_true, inB_iff, and_assoc]

theorem roomSteps_ok {f : List Block} (h : FlashOk f) {b : Block} (hb : b ∈ f) : ∀ x ∈ roomSteps f b.pages, StepOk x ∧ x.kind = 1 := by
  intro x hx
  obtain ⟨p, hp, hm⟩ := List.mem_flatMap.1 hx
  unfold roomOne at hm
  split at hm
  · rename_i hc
    obtain rfl := List.mem_singleton.1 hm
    have h1 : p.state = 1 := by have := hc.1; simp only [liveP, Bool.and_eq_true, beq_iff_eq] at this; exact this.1
    have hr := recOkB_iff.1 (liveP_ok h hb hp h1)
    exact ⟨⟨⟨fun _ => hr.2.2.1, fun h => absurd rfl h⟩, fun h => (by cases h)⟩, rfl⟩
  · cases hm
theorem room_block {f : List Block} (h : FlashOk f) : 0 ≤ (room f).2.1 ∧ (room f).2.1 ≤ 3 := by
  have h4 := h.len
  unfold room
  split
  · rename_i hc; have := openB_lt hc; dsimp only; omega
  · have := old_lt (f := f) (by omega); dsimp only; omega
theorem room_ok {f : List Block} (h : FlashOk f) : ∀ x ∈ (room f).1, StepOk x := by
  have h4 := h.len
  unfold room
  split
  · intro x hx; cases hx
  · have ho := old_lt (f := f) (by omega)
    intro x hx
    rcases List.mem_append.1 hx with hx | hx
    · exact (roomSteps_ok h (blockAt_mem ho) x hx).1
    · obtain rfl := List.mem_singleton.1 hx
      exact ⟨⟨fun h => (by cases h), fun _ => by dsimp only; omega⟩, fun h => (by cases h)⟩
theorem write_ok {f : List Block} (h : FlashOk f) (kind addr val : Int) : ∀ x ∈ writeSteps f kind addr val, StepOk x := by
  unfold writeSteps
  split
  · rename_i hc
    simp only [Bool.and_eq_true] at hc
    intro x hx
    rcases List.mem_append.1 hx with hx | hx
    · exact room_ok h x hx
    · obtain rfl := List.mem_singleton.1 hx
      exact ⟨⟨fun h => (by cases h), fun _ => room_block h⟩, fun _ => hc.2⟩
  · intro x hx; cases hx
theorem flush_ok {s : Store} (h : FlashOk s.flash) {n : Nat} (hn : n < 6) : ∀ x ∈ flushSteps s n, StepOk x := by
  unfold flushSteps
  split
  · split
    · intro x hx; cases hx
    · intro x hx
      rcases List.mem_cons.1 hx with rfl | hx
      · exact ⟨⟨fun _ => by dsimp only; omega, fun h => absurd rfl h⟩, fun h => (by cases h)⟩
      · exact write_ok h _ _ _ x hx
  · intro x hx; cases hx
theorem fill_ok {s : Store} (h : FlashOk s.flash) (n : Nat) : ∀ x ∈ fillSteps s n, StepOk x := by
  unfold fillSteps
  split
  · intro x hx; cases hx
  · exact write_ok h _ _ _
theorem addrStep_ok {g : Nat → List Step} (h : ∀ n, n < 6 → ∀ x ∈ g n, StepOk x) (a : Int) : ∀ x ∈ addrStep g a, StepOk x := by
  unfold addrStep
  split
  · rename_i hc; have := inB_iff.1 hc; exact h _ (by omega)
  · intro x hx; cases hx
theorem play_ok {s : Store} (h : FlashOk s.flash) (e : Event) : ∀ x ∈ playSteps s e, StepOk x := by
  unfold playSteps putSteps
  split
  · exact write_ok h _ _ _
  · split
    · exact addrStep_ok (fun n hn => flush_ok h hn) _
    · split
      · exact addrStep_ok (fun n _ => fill_ok h n) _
      · intro x hx; cases hx
end Go.Bu

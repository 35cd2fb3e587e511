/- Drawn plays: events, and the store behind them. -/
import Derived.Test.YtcgedfahgldkoaaDraw3
import Derived.Test.YtcgedfahgldkoaaNew3
set_option linter.unusedVariables false
set_option linter.unusedSimpArgs false
namespace Go.Bu
open Go Go.RowKit Go.Plan Go.Proofs

/-- events in a row that was made since base -/
abbrev ERow (base : Nat) (w : World) (v : Value) (xs : List Event) : Prop := w.ownsRow base 81 5 v xs.length (xs.flatMap eventC)

theorem ERow.nil (base : Nat) (w : World) : ERow base w (.slice none 0 0) [] := ⟨rfl, .inl ⟨rfl, rfl⟩⟩
theorem ERow.empty {base : Nat} {w : World} {B : Nat} (h : w.heap[B]? = some (.cells #[] 81 (0, 0))) (hb : base ≤ B) : ERow base w (.slice (some ⟨B, 0, none⟩) 0 0) [] := ⟨rfl, .inr ⟨B, 0, #[], rfl, hb, h, Nat.le_refl _, by simp, rfl, rfl⟩⟩
theorem ERow.one {base : Nat} {w : World} {B : Nat} {y : Event} (h : w.heap[B]? = some (.cells (eventC y).toArray 81 (0, 0))) (hb : base ≤ B) : ERow base w (.slice (some ⟨B, 0, none⟩) 1 1) [y] :=
  ⟨rfl, .inr ⟨B, 1, _, rfl, hb, h, Nat.le_refl _, by simp [maxLen], rfl, rfl⟩⟩
theorem ERow.ext {base : Nat} {w w' : World} {v : Value} {xs : List Event} (h : ERow base w v xs) (hx : Ext w w') : ERow base w' v xs := ownsRow_ext h hx
theorem ERow.form {base : Nat} {w : World} {v : Value} {xs : List Event} (h : ERow base w v xs) : ∃ a cap, v = .slice a xs.length cap := by
  obtain ⟨_, h2⟩ := h
  rcases h2 with ⟨rfl, h0⟩ | ⟨g, cap, cur, rfl, _⟩
  · exact ⟨none, 0, by rw [h0]⟩
  · exact ⟨_, cap, rfl⟩
theorem ERow.events {base : Nat} {w : World} {v : Value} {xs : List Event} (h : ERow base w v xs) : Events (Old w) w v xs := by
  rcases h.2 with ⟨rfl, h0⟩ | ⟨g, cap, cur, rfl, _, hh, _, _, _, ht⟩
  · have : xs = [] := List.length_eq_zero_iff.1 h0
    subst this
    exact ⟨none, 0, rfl, fun i x hx => by simp at hx⟩
  · refine ⟨_, cap, rfl, fun i x hx => ⟨g, 0, eventC x, rfl, heap_lt hh, rfl, fun j u hu => ?_⟩⟩
    have := flat_get (enc := eventC) (n := 5) (fun _ => rfl) xs i x j u hx hu
    rw [← ht] at this
    have hlt := (List.getElem?_eq_some_iff.1 this).1
    rw [List.length_take] at hlt
    rw [List.getElem?_take_of_lt (by omega)] at this
    rw [cell_block hh, Nat.zero_add]
    simpa using this

/-- append of one event -/
theorem wpList_appEvent {w : World} {ops : Array Oper} {rest : List Oper} {o : Oper} {a : Act} {Q : Exit → Act → World → Prop} (hgd : o.guard = none) (s x : Operand)
    (ho : o.op = .call { callee := .builtin .append, args := #[s, x], argTypes := #[118, 118] }) {base : Nat} {v : Value} {xs : List Event} (hs : a.eval s = v) (hown : ERow base w v xs)
    {B : Nat} {y : Event} (hx : a.eval x = .slice (some ⟨B, 0, none⟩) 1 1) (hB : w.heap[B]? = some (.cells (eventC y).toArray 81 (0, 0))) (hlen : xs.length ≤ 1000000) (hbase : base ≤ w.heap.size)
    (h : ∀ v' w', ERow base w' v' (xs ++ [y]) → w.grownBy w' v.ownBlock → wpList Try.prog ops Q rest (a.put o.dst v') w') : wpList Try.prog ops Q (o :: rest) a w := by
  refine wpList_app hgd s x 118 ho base 81 5 40 Try.underlying118 (by kernel_rfl) (by omega) v xs.length (xs.flatMap eventC) hs hown ⟨B, 0, none⟩ 1 1 (eventC y) hx rfl (fun j u hu => ?_) (by simp [Value.oneCell']) (by simp [maxLen]; omega) (by omega) hbase (fun v' w' h1 h2 => h v' w' ?_ h2)
  · rw [Addr.add_mid, cell_block hB, Nat.zero_add]; simpa using hu
  · show w'.ownsRow _ _ _ _ _ _
    rw [List.length_append, List.flatMap_append]; simpa using h1


theorem Chg.then_new {R : Nat} {L : List Nat} {w w1 w2 : World} (h : Chg [R] w w1) (hc : Chg L w1 w2) (hL : ∀ b ∈ L, w.heap.size ≤ b) : Chg [R] w w2 :=
  ⟨hc.os.trans h.os, hc.tape.trans h.tape, hc.output.trans h.output, Nat.le_trans h.size hc.size, fun k hk hn => by
    rw [hc.block k (Nat.lt_of_lt_of_le hk h.size) fun hm => by have := hL k hm; omega]; exact h.block k hk hn⟩
theorem Chg.grown {L : List Nat} {w w1 w2 : World} {v : Value} (h : Chg L w w1) {base : Nat} {e : TypeId} {size n : Nat} {xs : List Value} (ho : w1.ownsRow base e size v n xs) (hb : w.heap.size ≤ base) (hg : w1.grownBy w2 v.ownBlock) : Chg L w w2 :=
  ⟨hg.os.trans h.os, hg.tape.trans h.tape, hg.output.trans h.output, Nat.le_trans h.size hg.size, fun k hk hn => by
    rw [hg.block k (Nat.lt_of_lt_of_le hk h.size) fun e => by have := (ho.lt k e.symm).1; omega]; exact h.block k hk hn⟩
theorem OwnS.grown {c : SC} {w w' : World} {s : Store} (h : OwnS c w s) {v : Value} {base : Nat} {e : TypeId} {size n : Nat} {xs : List Value} (ho : w.ownsRow base e size v n xs) (hb : ∀ b ∈ c.L, b < base) (hg : w.grownBy w' v.ownBlock) : OwnS c w' s :=
  h.keep fun b hm => hg.block b (h.lt b hm) fun e => by have := (ho.lt b e.symm).1; have := hb b hm; omega
theorem Rk.grown {w w' : World} {R K : Nat} (h : Rk w R K) {v : Value} {base : Nat} {e : TypeId} {size n : Nat} {xs : List Value} (ho : w.ownsRow base e size v n xs) (hb : R < base) (hg : w.grownBy w' v.ownBlock) : Rk w' R K := by
  obtain ⟨bv, xs', p, h, hp⟩ := h
  have hk : ∀ b, b ≤ R → w'.heap[b]? = w.heap[b]? := fun b hbR => hg.block b (Nat.lt_of_le_of_lt hbR h.lt) fun e => by have := (ho.lt b e.symm).1; omega
  exact ⟨bv, xs', p, ⟨by rw [hk R (Nat.le_refl _)]; exact h.cells, Sl.same (plain_kept _) h.bytes (fun b hb => hk b (Nat.le_of_lt hb)) (fun b hb => hb), h.small, h.len⟩, hp⟩
theorem row_chg {L : List Nat} {w w' : World} {base : Nat} {e : TypeId} {size n : Nat} {v : Value} {xs : List Value} (h : w.ownsRow base e size v n xs) (hx : Chg L w w') (hL : ∀ b ∈ L, b < base) : w'.ownsRow base e size v n xs := by
  obtain ⟨h1, h2⟩ := h
  refine ⟨h1, h2.imp id fun ⟨g, cap, cur, hv, hb, hh, hr⟩ => ⟨g, cap, cur, hv, hb, hx.keep hh fun hm => by have := hL g hm; omega, hr⟩⟩


theorem keep_row {W w w' : World} {b : Nat} {o : Obj} {base size m : Nat} {e : TypeId} {u : Value} {ys : List Value} (h : w.heap[b]? = some o) (hu : W.ownsRow base e size u m ys) (hb : W.heap.size ≤ b) (hg : w.grownBy w' u.ownBlock) : w'.heap[b]? = some o := by
  rw [hg.block b (heap_lt h) fun e => by have := (hu.lt b e.symm).2; omega]; exact h
theorem l21Do_v (c : SC) (s t : Store) (e : Event) (w : World) (h : OwnS c w s) (hs : StoreP s) (hl : s.flash.length = t.flash.length ∧ s.disk.length = t.disk.length) :
    Calls Try.prog 63 #[.agg #[c.fv t, c.dv t], eventA e] w (RetOv c w (c.fv t) (c.dv t) (playDoS s e)) := by
  obtain ⟨h1, h2⟩ := SC.same (c := c) hl
  have := l21Do_c c s e w h hs
  rw [h1, h2] at this
  refine this.mono fun e' w' ⟨he, hc, ho⟩ => ⟨?_, hc, ho⟩
  obtain ⟨h3, h4⟩ := SC.same (c := c) (playDoS_len s e)
  rw [he, h3, h4, h1, h2]

theorem newStore_ok : StoreP newStore := ⟨by decide, rfl⟩

/-- what a drawn play is: events, and the store behind them -/
def PlayΦ (w : World) (v : Value) (w' : World) : Prop := ∃ (c : SC) (s : Store) (ev : Value) (es : List Event) (H : Nat), v = .tuple #[ev, .agg #[c.fv s, c.dv s]] ∧ OwnS c w' s ∧ StoreP s ∧ (∀ b ∈ c.L, w.heap.size ≤ b ∧ b < H) ∧ w.heap.size ≤ H ∧ ERow H w' ev es ∧ (∀ e ∈ es, EventD e) ∧ es.length ≤ 57

set_option maxRecDepth 20000 in
set_option maxHeartbeats 4000000 in
theorem l71Play_c (R K : Nat) (w : World) (h : Rk w R (K + 1 + 57 * 7)) :
    Calls Try.prog 79 #[.pointer (some ⟨R, 0, none⟩)] w (DrawV R K w (PlayΦ w)) := by
  have hR := h.lt
  have HK := h; clear h
  have C := Chg.refl [R] w
  go_enter Try.func79, Try.ntmps79
  go_wp2_with fail
  refine (specStoreNew_c _).mono ?_; rintro e1 w1 hsn
  obtain ⟨fv, dv, L, rfl, hx1, hOS, hnd, hLb⟩ := hsn
  obtain ⟨c, rfl, rfl, rfl, hO⟩ := hOS.at_ hnd
  obtain ⟨s0, hs0⟩ : ∃ s0, newStore = s0 := ⟨_, rfl⟩
  have hP0 : StoreP s0 := hs0 ▸ newStore_ok
  rw [hs0] at hO ⊢
  clear hs0 hOS hnd
  have hb0 : ∀ b ∈ c.L, w.heap.size < b ∧ b < w1.heap.size := fun b hb => ⟨by have := hLb b hb; simp at this; omega, hO.lt b hb⟩
  have HB := Lib.hid hb0
  have HP := Lib.hid hP0
  replace C := C.then_sets (Chg.of_ext hx1) (by ((repeat (first | with_reducible (refine Chg.set2 ?_ ?_); focus (exact Or.inr (by dsimp only; omega)) | with_reducible refine Chg.alloc2 ?_)); with_reducible exact C))
  replace HK := Rk.ext (by ((repeat (first | (with_reducible apply Rk.set2; focus (dsimp only; omega)) | with_reducible apply Rk.alloc2)); with_reducible exact HK)) hx1
  have G3 := keep_ext hx1 (hg_new (b := w.heap.size) rfl)
  have l3 := heap_lt G3
  have HO := Lib.hid hO
  have HRL : Hid (∀ b ∈ c.L, b ∉ [R]) := Lib.hid fun b hb => by have := hb0 b hb; simp; omega
  clear hLb hb0 hP0 hO hx1
  go_wp2_with fail
  refine (pick_k R _ _ (by ((repeat (first | (with_reducible apply Rk.set2; focus (dsimp only; omega)) | with_reducible apply Rk.alloc2)); with_reducible exact HK))).mono ?_; rintro e2 w2 ⟨r, rfl, hr0, hr1, hC, HK1⟩
  replace C := C.then_sets hC (by ((repeat (first | with_reducible (refine Chg.set2 ?_ ?_); focus (exact Or.inr (by dsimp only; omega)) | with_reducible refine Chg.alloc2 ?_)); with_reducible exact C))
  replace HK := HK1; clear HK1
  replace G3 := hC.keep (b := w.heap.size) (by (repeat (first | with_reducible apply hg_here | (with_reducible apply hg_set; focus (dsimp only; omega)) | with_reducible apply hg_alloc)); with_reducible exact G3) (by simp; omega)
  have G4 := hC.keep (b := w1.heap.size) (hg_alloc (hg_new rfl)) (by simp; omega)
  have GE := hC.keep (b := w1.heap.size + 1) (hg_new (by simp)) (by simp; omega)
  have hO2 : OwnS c w2 s0 := ((HO.out.alloc2).alloc2).chg hC HRL.out
  obtain ⟨n0, rfl⟩ : ∃ n : Nat, r = n := ⟨r.toNat, by omega⟩
  have hn57 := hr1 (by omega)
  have HO2 := Lib.hid hO2
  clear hC hO2 HO hr1 hr0
  go_wp2_with fail
  go_loopw [5, 6] (fun ev y wr => ∃ (n : Nat) (s : Store) (es : List Event), y = .int .i64 n ∧ n + es.length ≤ 57 ∧ Chg [R] w wr ∧ OwnS c wr s ∧ Hid (StoreP s) ∧ Hid (s.flash.length = s0.flash.length ∧ s.disk.length = s0.disk.length) ∧ ERow (w1.heap.size + 1) wr ev es ∧ Hid (∀ e ∈ es, EventD e) ∧ Rk wr R (K + 7 * n) ∧
    wr.heap[w.heap.size]? = some (.cells #[.slice none 0 0, .slice none 0 0] 43 (0, 0)) ∧ wr.heap[w1.heap.size]? = some (.cells #[c.fv s0, c.dv s0] 43 (0, 0))) (fun _ y _ => (intOf y).toNat)
  case atStart => exact ⟨n0, s0, [], rfl, by simp; omega, C, HO2.out, HP, Lib.hid ⟨rfl, rfl⟩, ERow.empty GE (by omega), Lib.hid (by simp), HK.less (by omega), G3, G4⟩
  case round =>
    clear C HO2 G3 G4 GE HK HP
    obtain ⟨n, s, es, rfl, hne, C, hO, HP, HE, hrow, HD, HK, G3, G4⟩ := hrel
    obtain ⟨ea, ecap, rfl⟩ := hrow.form
    have l4 := heap_lt G4
    obtain ⟨g3, gf3⟩ := cellsK G3
    obtain ⟨g4, gf4⟩ := cellsK G4
    have HO := Lib.hid hO; have HROW := Lib.hid hrow
    clear hO hrow
    rcases n with _ | n
    · go_wp2_with fail
      refine wp_region_ext [] [0, 1, 2] [] [3] (by kernel_rfl) (by kernel_rfl) ?late ?_
      case late => exact fun f hf => absurd hf List.not_mem_nil
      refine Rob.y (v := ?_) rfl rfl (fun w1 hx hH => ?_) ?_; rotate_left
      · go_simp; first | done | rfl | exact (Bool.not_not _).symm
      simp only [Act.put, List.setIfInBounds_toArray, List.set_cons_succ, List.set_cons_zero]
      refine Rob.y (v := ?_) rfl rfl (fun w1 hx hH => ?_) ?_; rotate_left
      · (obtain ⟨hcx, hfx⟩ := bcell hx); go_simp; first | done | rfl
      simp only [Act.put, List.setIfInBounds_toArray, List.set_cons_succ, List.set_cons_zero]
      refine Rob.y (v := ?_) rfl rfl (fun w1 hx hH => ?_) ?_; rotate_left
      · go_simp; first | done | rfl | exact (Bool.not_not _).symm
      simp only [Act.put, List.setIfInBounds_toArray, List.set_cons_succ, List.set_cons_zero]
      refine fin_tail (fun w5 hx5 _ => ?_)
      simp only [dstOf, List.getElem?_cons_succ, List.getElem?_cons_zero, Option.bind_some, Act.put, List.setIfInBounds_toArray, List.set_cons_succ, List.set_cons_zero, List.filterMap_cons, List.filterMap_nil]
      replace G3 := keep_ext hx5 G3
      replace G4 := keep_ext hx5 G4
      clear g3 gf3 g4 gf4
      obtain ⟨g3, gf3⟩ := cellsK G3
      have l3 := heap_lt G3
      have C5 := C.trans (Chg.of_ext hx5)
      have HK5 := HK.ext hx5
      go_wp2_with fail
      obtain ⟨q1, q2⟩ := SC.same (c := c) HE.out
      refine bodyPost_ret (v := .tuple #[.slice ea es.length ecap, .agg #[c.fv s0, c.dv s0]]) (by simp [results, Try.results79, go_sem, g3, gf3]) rfl ⟨_, rfl, (by ((repeat (first | with_reducible (refine Chg.set2 ?_ ?_); focus (exact Or.inr (by dsimp only; omega)) | with_reducible refine Chg.alloc2 ?_)); with_reducible exact C5)), Rk.less (by ((repeat (first | (with_reducible apply Rk.set2; focus (dsimp only; omega)) | with_reducible apply Rk.alloc2)); with_reducible exact HK5)) (by omega), c, s, .slice ea es.length ecap, es, w1.heap.size + 1, by rw [q1, q2], ?_, HP.out, fun b hb => ⟨by have := HB.out b hb; omega, by have := HB.out b hb; omega⟩, by omega, ?_, HD.out, by omega⟩
      · have ho := HO.out.ext hx5
        have hnb : ∀ b, b ≤ w.heap.size → b ∉ c.L := fun b hb hm => by have := HB.out b hm; omega
        exact (ho.set (hnb _ (Nat.le_refl _)) _).set (hnb _ (Nat.le_refl _)) _
      · have hr := HROW.out.ext hx5
        refine row_chg (L := [w.heap.size]) hr ?_ (by simp; omega)
        exact ((Chg.refl _ _).set (.inl (by simp)) _).set (.inl (by simp)) _
    · have hpos : (0 : Int) < ((n + 1 : Nat) : Int) := by omega
      go_wp2_with fail
      refine (l71Event_c R (K + 7 * n) _ (HK.less (by omega))).mono ?_; rintro e3 w3 ⟨v, rfl, hC, HK3, e, rfl, hE⟩
      have C3 := C.trans hC
      have hO3 := HO.out.chg hC HRL.out
      have hrow3 : ERow (w1.heap.size + 1) w3 (.slice ea es.length ecap) es := row_chg HROW.out hC (by simp; omega)
      replace G3 := hC.keep G3 (by simp; omega)
      replace G4 := hC.keep G4 (by simp; omega)
      have l4' := heap_lt G4
      have HO3 := Lib.hid hO3; have HR3 := Lib.hid hrow3
      have HE3 := Lib.hid hE
      clear hO3 hrow3 hE hC HK C g3 gf3 g4 gf4
      go_wp2_with (refine wpList_appEvent rfl _ _ rfl rfl ((HR3.out.ext (ext_alloc (ext_refl _) _)).ext (ext_alloc (ext_refl _) _)) (y := e) rfl (hg_new (by simp)) (by omega) (by simp; omega) (fun v' w' hS' hg => ?_); replace G3 := keep_grown (hg_alloc (hg_alloc G3)) (by decide) ((HR3.out.ext (ext_alloc (ext_refl _) _)).ext (ext_alloc (ext_refl _) _)) hg; replace G4 := keep_grown (hg_alloc (hg_alloc G4)) (by decide) ((HR3.out.ext (ext_alloc (ext_refl _) _)).ext (ext_alloc (ext_refl _) _)) hg; have G7 := keep_row (hg_alloc (hg_new (b := w3.heap.size) rfl)) HR3.out (Nat.le_refl _) hg; obtain ⟨g4, gf4⟩ := cellsK G4; obtain ⟨g7, gf7⟩ := cellsK G7)
      have hra : ERow (w1.heap.size + 1) ((w3.alloc (.cells (eventC e).toArray 81)).alloc (.cells (eventC e).toArray 81)) (.slice ea es.length ecap) es := (HR3.out.ext (ext_alloc (ext_refl _) _)).ext (ext_alloc (ext_refl _) _)
      have hOa := ((HO3.out.alloc2).alloc2).grown hra (fun b hb => by have := HB.out b hb; omega) hg
      have Ca := Chg.grown ((C3.alloc _).alloc _) hra (by omega) hg
      have HKa := Rk.grown ((HK3.alloc2).alloc2) hra (by omega) hg
      refine (l21Do_v c s s0 e _ hOa HP.out HE.out).mono ?_; rintro e4 w4 ⟨rfl, hC4, hO4⟩
      have C4 := Ca.then_new hC4 (fun b hb => by have := HB.out b hb; omega)
      replace G3 := hC4.keep G3 (fun hm => by have := HB.out _ hm; omega)
      replace G4 := hC4.keep G4 (fun hm => by have := HB.out _ hm; omega)
      have hrow4 := row_chg hS' hC4 (fun b hb => by have := HB.out b hb; omega)
      have HK4 := HKa.chg hC4 (fun b hb => by have := HB.out b hb; omega)
      obtain ⟨hl1, hl2⟩ := playDoS_len s e
      have HPn := Lib.hid (HP.out.play e)
      have HO4 := Lib.hid hO4; have HR4 := Lib.hid hrow4
      have l44 := heap_lt G4
      clear g4 gf4 g7 gf7 hO4 hrow4 hra hOa hS' hg hC4 G7
      obtain ⟨g4, gf4⟩ := cellsK G4
      generalize playDoS s e = s2 at *
      go_wp2_with fail
      refine ⟨⟨n, s2, es ++ [e], by go_num, by simp; omega, (by ((repeat (first | with_reducible (refine Chg.set2 ?_ ?_); focus (exact Or.inr (by dsimp only; omega)) | with_reducible refine Chg.alloc2 ?_)); with_reducible exact C4)), ?_, HPn, Lib.hid ⟨hl1.trans HE.out.1, hl2.trans HE.out.2⟩, ?_, Lib.hid fun x hx => ?_, Rk.less (by ((repeat (first | (with_reducible apply Rk.set2; focus (dsimp only; omega)) | with_reducible apply Rk.alloc2)); with_reducible exact HK4)) (by omega), (by (repeat (first | with_reducible apply hg_here | (with_reducible apply hg_set; focus (dsimp only; omega)) | with_reducible apply hg_alloc)); with_reducible exact G3), hgo (by (repeat (first | with_reducible apply hg_here | (with_reducible apply hg_set; focus (dsimp only; omega)) | with_reducible apply hg_alloc)); with_reducible exact G4) ?_⟩, by simp [intOf]; try omega⟩
      · have hnb : w1.heap.size ∉ c.L := fun hm => by have := HB.out _ hm; omega
        exact (HO4.out.set hnb _).set hnb _
      · refine row_chg (L := [w1.heap.size]) HR4.out ?_ (by simp)
        exact ((Chg.refl _ _).set (.inl (by simp)) _).set (.inl (by simp)) _
      · rcases List.mem_append.1 hx with hx | hx
        · exact HD.out x hx
        · obtain rfl := List.mem_singleton.1 hx; exact HE3.out
      · simp
end Go.Bu

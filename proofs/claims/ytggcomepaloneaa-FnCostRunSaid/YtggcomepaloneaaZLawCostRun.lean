/- The law FnCostRun holds of every input. -/
import Derived.Test.YtggcomepaloneaaZ9
import Derived.Test.YtggcomepaloneaaZ8
set_option linter.unusedVariables false
set_option linter.unusedSimpArgs false
namespace Go.Bu
open Go Go.RowKit Go.Plan Go.Proofs

theorem Sl.takeE {w : World} {a : Option Addr} {len cap : Nat} {xs : List Event} (h : Events (Old w) w (.slice a len cap) xs) (n : Nat) (hn : n ≤ xs.length) : Events (Old w) w (.slice a n cap) (xs.take n) := by
  obtain ⟨a', c', he, hc⟩ := h
  injection he with h1 h2 h3
  subst h1; subst h3
  refine ⟨a, cap, by rw [List.length_take, Nat.min_eq_left hn], fun i x hi => hc i x ?_⟩
  rw [List.getElem?_take] at hi
  split at hi
  · exact hi
  · cases hi
theorem small_ok2 {s : Store} (h : storeOkB s = true) : Small s := by
  have := (storeOk_P h).shape4
  exact ⟨by rw [this.flash]; omega, fun b hb => by rw [this.pages b hb]; omega, by rw [this.disk]; omega⟩
theorem erow_ne {base : Nat} {w : World} {v : Value} {xs : List Event} {b : Nat} {c : Array Value} {T : TypeId} {fr : Nat × Nat} (h : ERow base w v xs) (G : w.heap[b]? = some (.cells c T fr)) (hT : T ≠ 31) : v.ownBlock ≠ some b := by
  intro e
  rcases h.2 with ⟨rfl, _⟩ | ⟨g, cap, cur, rfl, _, hh, _⟩
  · simp [Value.ownBlock] at e
  · simp [Value.ownBlock] at e
    subst e
    rw [G] at hh
    injection hh with hh
    injection hh with _ h2 _
    exact hT h2
theorem erow_keep {base : Nat} {w w' : World} {v : Value} {xs : List Event} (h : ERow base w v xs) (hb : ∀ g, v.ownBlock = some g → g < w.heap.size → w'.heap[g]? = w.heap[g]?) : ERow base w' v xs := by
  refine ⟨h.1, h.2.imp id fun ⟨g, cap, cur, h1, h2, h3, h4⟩ => ⟨g, cap, cur, h1, h2, ?_, h4⟩⟩
  subst h1
  rw [hb g (by simp [Value.ownBlock]) (heap_lt h3)]; exact h3
theorem doV_own {w : World} {f d : Value} {s : Store} {e : Event} {M : List Nat} (hok : storeOkB s = true) (h : StoreL w (.agg #[f, d]) (doV s e) M) : OwnStore w f d (playDoS s e) M := by
  unfold doV at h
  rw [if_pos hok] at h
  rcases h with ⟨_, h2, _⟩ | ⟨f', d', h1, h2, _⟩
  · have := storeOk_play hok e
    rw [h2] at this
    exact absurd this (by decide)
  · injection h1 with h1
    simp at h1
    obtain ⟨rfl, rfl⟩ := h1
    exact h2
theorem lqC (c : Cost) (w : World) : Calls Try.prog 12 #[costA c, costA c] w (Ret w (.bool true)) := by
  have := lqCost_c c c w
  rwa [show costEq c c = true by simp [costEq]] at this
theorem eventD_c {es : List Event} (h : ∀ e ∈ es, EventD e) : ∀ e ∈ es, -9223372036854775808 ≤ e.c ∧ e.c ≤ 9223372036854775807 := fun e he => by have := (h e he).c; omega

theorem sum_mono : ∀ (cs : List Cost) (c : Cost), (∀ x ∈ cs, costBound x 42) → c.writes ≤ (cs.foldl costSum c).writes ∧ c.wipes ≤ (cs.foldl costSum c).wipes ∧ c.disks ≤ (cs.foldl costSum c).disks
  | [], c, _ => ⟨Int.le_refl _, Int.le_refl _, Int.le_refl _⟩
  | x :: cs, c, h => by
    have h1 := sum_mono cs (costSum c x) fun y hy => h y (by simp [hy])
    have h2 := h x (by simp)
    unfold costBound at h2
    rw [List.foldl_cons]
    unfold costSum at h1 ⊢
    dsimp only at h1
    omega
theorem allPair_le {s : Store} (h : StoreP s) : (allPair s).2.length ≤ 42 := by
  have : ∀ (L : List Nat) (t : Store) (st : List Step), (∀ n ∈ L, n < 6) → StoreP t → (L.foldl allPairStep (t, st)).2.length ≤ st.length + 7 * L.length := by
    intro L
    induction L with
    | nil => intro t st _ _; simp
    | cons n L ih =>
      intro t st hL ht
      rw [List.foldl_cons, List.length_cons]
      have := ih (allStep t n) (st ++ flushSteps t n) (fun m hm => hL m (by simp [hm])) (ht.allStep (hL n (by simp)))
      have h7 := flush_le ht.flash n
      rw [List.length_append] at this
      show (L.foldl allPairStep (allStep t n, st ++ flushSteps t n)).2.length ≤ _
      omega
  have := this addrs6 s [] (by decide) h
  exact Nat.le_trans this (by decide)
theorem begun_le {s : Store} (h : storeOkB s = true) (e : Event) : (begunS s e).length ≤ 42 := by
  have hp := storeOk_P h
  unfold begunS
  split
  · exact allPair_le hp
  · split
    · simp
    · have := play_le hp.flash e
      rw [List.length_take]; omega
theorem evCosts_all : ∀ (es : List Event) (s : Store), storeOkB s = true → ∀ x ∈ evCosts s es, costBound x 42
  | [], _, _, x, hx => by simp [evCosts] at hx
  | e :: es, s, h, x, hx => by
    rcases List.mem_cons.1 hx with rfl | hx
    · have h1 := costOf_bound (begunS s e)
      have h2 := begun_le h e
      unfold evCost costBound at *
      omega
    · exact evCosts_all es (playDoS s e) (storeOk_play h e) x hx
theorem run_mono (es : List Event) (m : Nat) : (runCost (es.take m)).writes ≤ (runCost es).writes ∧ (runCost (es.take m)).wipes ≤ (runCost es).wipes ∧ (runCost (es.take m)).disks ≤ (runCost es).disks := by
  have e : runCost es = ((evCosts newStore es).drop m).foldl costSum (runCost (es.take m)) := by
    unfold runCost sumCost
    rw [evCosts_of_take, ← List.foldl_append, List.take_append_drop]
  rw [e]
  exact sum_mono _ _ fun x hx => evCosts_all es newStore storeOk_new x (List.mem_of_mem_drop hx)
/-- an event, played to its end -/
def wholeE (e : Event) : Event := ⟨e.kind, e.a, e.b, 60, false⟩
theorem whole_cost {s : Store} (h : storeOkB s = true) (e : Event) (h4 : e.kind ≠ 4) : evCost s (wholeE e) = costOf (playSteps s (wholeE e)) := by
  unfold evCost
  rw [begun_take s (wholeE e) h4]
  have h7 := play_le (storeOk_P h).flash (wholeE e)
  have hb : begunN (playSteps s (wholeE e)).length (wholeE e).c (wholeE e).torn = (playSteps s (wholeE e)).length := by
    unfold begunN wholeE
    dsimp only
    rw [if_neg (by simp)]
    unfold wholeE at h7
    omega
  rw [hb, if_neg (by unfold wholeE; dsimp only; omega), Int.toNat_natCast, List.take_length]
theorem evCosts_snoc : ∀ (zs : List Event) (s : Store) (e : Event), evCosts s (zs ++ [e]) = evCosts s zs ++ [evCost (evStore s zs) e]
  | [], s, e => rfl
  | z :: zs, s, e => by simp only [List.cons_append, evCosts, evCosts_snoc zs (playDoS s z) e]; rfl
theorem evStore_snoc (zs : List Event) (s : Store) (e : Event) : evStore s (zs ++ [e]) = playDoS (evStore s zs) e := by unfold evStore; rw [List.foldl_append]; rfl
theorem run_snoc (zs : List Event) (e : Event) : sumCost (evCosts newStore (zs ++ [e])) = costSum (sumCost (evCosts newStore zs)) (evCost (evStore newStore zs) e) := by
  rw [evCosts_snoc]; unfold sumCost; rw [List.foldl_append]; rfl

set_option maxRecDepth 20000 in
set_option maxHeartbeats 2000000 in
theorem lawCostRun (v : Value) (xs : List Nat) (u : Value) (ys : List Nat) (w : World) (h : Bytes (Old w) w v xs) (hs : ∀ x ∈ xs, x < 256) (hcap : ∀ a n c, v = .slice a n c → n ≤ c) (h2 : Bytes (Old w) w u ys) (_ : ∀ x ∈ ys, x < 256) (_ : ∀ a n c, u = .slice a n c → n ≤ c) :
    Calls Try.prog 7 #[v, u] w (Ret w (.bool true)) := by
  obtain ⟨a, cap, rfl⟩ := h.form
  obtain ⟨a2, cap2, rfl⟩ := h2.form
  by_cases hl : xs.length ≤ 1048576
  · by_cases hl2 : ys.length ≤ 1048576
    · go_enter Try.func7, Try.ntmps7
      go_wp2_with fail
      refine (drawCostRun_c _ xs _ h hs hl hcap).mono ?_; rintro e1 w1 ⟨v1, es, rfl, X1, hE, hcapE, hD, h61⟩
      obtain ⟨oa, ocap, rfl⟩ := hE.form
      have hoc := hcapE _ _ _ rfl
      have hS := specCostRun_c _ es w1 hE (eventD_c hD) (by omega)
      have hI := fun (w' : World) (hx : Ext w1 w') => implCostRun_c _ es w' (Sl.same (plain_kept _) hE (same_old hx) (old_ext hx)) (eventD_c hD) (by omega)
      have HD := Lib.hid hD
      have HE := Lib.hid hE
      clear hE hD hcapE
      by_cases h60 : es.length ≤ 60
      · rw [if_pos h60, decide_eq_true h60] at hS
        simp only [if_pos h60, decide_eq_true h60] at hI
        go_wp2_with fail
        refine hS.mono ?_; rintro e2 w2 ⟨rfl, hx2⟩
        go_wp2_with fail
        refine (hI _ (ext_alloc hx2 _)).mono ?_; rintro e3 w3 ⟨rfl, hx3⟩
        have X13 : Ext w1 w3 := ext_trans (ext_alloc hx2 _) hx3
        have G6 := keep_ext hx3 (hg_new (w := w2) (x := .cells #[.int .i64 (runCost es).writes, .int .i64 (runCost es).wipes, .int .i64 (runCost es).disks] 26) (b := w2.heap.size) rfl)
        obtain ⟨g6, gf6⟩ := cellsK G6
        have l6 := heap_lt G6
        clear hS hI hx2 hx3
        go_wp2_with fail
        refine (lqC (runCost es) _).mono ?_; rintro e4 w4 ⟨rfl, hx4⟩
        have X14 : Ext w1 w4 := ext_trans (ext_alloc X13 _) hx4
        have X34 : Ext w3 w4 := ext_trans (ext_alloc (ext_refl w3) _) hx4
        have G8 := keep_ext hx4 (hg_new (w := w3) (x := .cells #[.int .i64 (runCost es).writes, .int .i64 (runCost es).wipes, .int .i64 (runCost es).disks] 26) (b := w3.heap.size) rfl)
        replace G6 := keep_ext X34 G6
        clear g6 gf6 l6 hx4 X34 X13
        obtain ⟨g6, gf6⟩ := cellsK G6
        obtain ⟨g8, gf8⟩ := cellsK G8
        have l6 := heap_lt G6
        have l8 := heap_lt G8
        obtain ⟨m, hm, hmz⟩ : ∃ m : Nat, ((ys.length : Int) % ((es.length : Int) + 1)) = m ∧ m ≤ es.length := ⟨ys.length % (es.length + 1), by push_cast; rfl, by have := Nat.mod_lt ys.length (show 0 < es.length + 1 by omega); omega⟩
        have hc1 : ∀ w' : World, (Instr.slice 23 (.slice oa es.length ocap) none (some (.int .i64 m)) none).run Try.prog w' = .ok (.slice oa m ocap) w' := fun w' => by
          rw [run_slice_h w' 23 oa es.length ocap (by kernel_rfl) .i64 m (by omega) (by omega)]
          rw [show (sizeOf (Try.prog.elem 23)).run Try.prog w' = .ok 5 w' by kernel_rfl]
          simp only [Result.andThen, sliced, Int.toNat_natCast, Nat.sub_zero]
          first | done | (split <;> simp [Addr.add])
        have HM := Lib.hid (run_mono es m)
        have hL := implCostRun_c (.slice oa m ocap) (es.take m) w4 (Sl.takeE (Sl.same (plain_kept _) HE.out (same_old X14) (old_ext X14)) m hmz) (fun e he => eventD_c HD.out e (List.mem_of_mem_take he)) (by rw [List.length_take]; omega)
        rw [if_pos (by rw [List.length_take]; omega), decide_eq_true (show (es.take m).length ≤ 60 by rw [List.length_take]; omega)] at hL
        generalize runCost (es.take m) = DD at *
        generalize runCost es = CC at *
        obtain ⟨d1, d2, d3⟩ := DD
        obtain ⟨c1, c2, c3⟩ := CC
        obtain ⟨le1, le2, le3⟩ := HM.out
        dsimp only at le1 le2 le3 G6 G8
        clear HM
        go_wp2_with fail
        refine hL.mono ?_; rintro e5 w5 ⟨rfl, hx5⟩
        have X15 := ext_trans X14 hx5
        replace G8 := keep_ext hx5 G8
        clear hL hc1 hm g6 gf6 l6 g8 gf8 l8 G6 hx5 X14
        obtain ⟨g8, gf8⟩ := cellsK G8
        have l8 := heap_lt G8
        go_wp2_with fail
        refine (implStoreNew_c _).mono ?_; rintro e6 w6 ⟨f0, d0, L0, rfl, hx6, hO0, hn0, hb0⟩
        obtain ⟨b1, m1, k1, b2, m2, k2, rfl, rfl⟩ := hO0.forms
        have GR : w6.heap[w5.heap.size + 1]? = some (.cells #[] 31 (0, 0)) := keep_ext hx6 (hg_new (by simp))
        have HR0 := Lib.hid (ERow.empty GR (Nat.le_refl _))
        have X6 : Ext w w6 := ext_trans X1 (ext_trans X15 (ext_trans (ext_alloc (ext_alloc (ext_refl w5) _) _) hx6))
        have s6 := hx6.size
        simp at s6
        have hz1 := X1.size
        have hz5 := X15.size
        have X16 : Ext w1 w6 := ext_trans X15 (ext_trans (ext_alloc (ext_alloc (ext_refl w5) _) _) hx6)
        have HB0 : Hid (∀ b ∈ L0, w5.heap.size + 1 < b ∧ b < w6.heap.size) := Lib.hid fun b hb => ⟨by have := hb0 b hb; simp at this; omega, hO0.lt b hb⟩
        have HO0 := Lib.hid hO0
        clear hO0 hn0 hb0 hx6 g8 gf8 l8 G8 X15 GR
        go_wp2_with fail
        go_loopw [12, 15] (fun ov y wr => ∃ (k : Nat) (zs : List Event) (acc : Cost) (f d : Value) (M : List Nat), y = .int .i64 k ∧ k ≤ es.length ∧ zs.length ≤ k ∧ Ext w wr ∧ Ext w1 wr ∧ Hid (ERow (w5.heap.size + 1) wr ov zs) ∧ Hid (∀ e ∈ zs, e.c = 60) ∧ Hid (OwnStore wr f d (evStore newStore zs) M) ∧ Hid (∀ b ∈ M, ov.ownBlock ≠ some b ∧ b ≠ w6.heap.size ∧ b ≠ w6.heap.size + 1) ∧
          Hid (acc = sumCost (evCosts newStore zs)) ∧ Hid (costBound acc (42 * k)) ∧ wr.heap[w6.heap.size]? = some (.cells #[f, d] 41 (0, 0)) ∧ wr.heap[w6.heap.size + 1]? = some (.cells (costC acc).toArray 26 (0, 0)) ∧ w6.heap.size + 1 < wr.heap.size) (fun _ y _ => es.length - (intOf y).toNat)
        case atStart =>
          refine ⟨0, [], cost0, _, _, L0, rfl, by omega, by simp, ext_alloc (ext_alloc X6 _) _, ext_alloc (ext_alloc X16 _) _, Lib.hid ((HR0.out.ext (ext_alloc (ext_refl _) _)).ext (ext_alloc (ext_refl _) _)), Lib.hid (by simp), Lib.hid (HO0.out.ext (ext_alloc (ext_alloc (ext_refl _) _) _)), Lib.hid fun b hb => ?_, Lib.hid rfl, Lib.hid (by unfold costBound cost0; decide), hg_alloc (hg_new rfl), hg_new (by simp), by simp⟩
          have := HB0.out b hb
          refine ⟨?_, by omega, by omega⟩
          simp only [Value.ownBlock]
          intro hh
          injection hh with hh
          omega
        case round =>
          clear HR0 HO0 HB0 X6 X16
          obtain ⟨k, zs, acc, f, d, M, rfl, hk, hzk, X, XE, HR, HZ, HO, HM, HA, HB, G13, G14, lsz⟩ := hrel
          obtain ⟨za, zcap, rfl⟩ := HR.out.form
          by_cases hlt : k < es.length
          · obtain ⟨eb, eo, rfl, hbe, q0, q1, q2, q3, q4⟩ := (Sl.same (plain_kept _) HE.out (same_old XE) (old_ext XE) : Events (Old wr) wr _ _).at5 hlt
            have hok := evStore_ok zs newStore storeOk_new
            have hev := HD.out _ (List.getElem_mem hlt)
            obtain ⟨ev, hevv⟩ : ∃ e, es[k] = e := ⟨_, rfl⟩
            rw [hevv] at q0 q1 q2 q3 q4 hev
            obtain ⟨s, hsv⟩ : ∃ s, evStore newStore zs = s := ⟨_, rfl⟩
            have HSV := Lib.hid hsv
            rw [hsv] at HO hok
            have HOK := Lib.hid hok
            clear hevv hsv hok
            by_cases h4 : ev.kind = 4
            · obtain ⟨kd, ea, eb2, ec, et⟩ := ev
              obtain rfl : kd = 4 := h4
              go_wp2_with fail
              refine ⟨⟨k + 1, zs, acc, f, d, M, by go_num, by omega, by omega, ext_alloc X _, ext_alloc XE _, Lib.hid (HR.out.ext (ext_alloc (ext_refl _) _)), HZ, Lib.hid (by rw [HSV.out]; exact HO.out.ext (ext_alloc (ext_refl _) _)), HM, HA, Lib.hid ?_, hg_alloc G13, hg_alloc G14, by simp; omega⟩, by simp [intOf]; omega⟩
              have := HB.out
              unfold costBound at *
              push_cast
              omega
            · have h4f : (ev.kind == 4) = false := by simpa using h4
              obtain ⟨b1, m1, k1, b2, m2, k2, rfl, rfl⟩ := HO.out.forms
              have hRa := fun (o1 o2 : Obj) => Lib.hid ((HR.out.ext (ext_alloc (ext_refl wr) o1)).ext (ext_alloc (ext_refl _) o2))
              have hwr : w5.heap.size + 1 ≤ wr.heap.size := by omega
              go_wp2_with (refine wpList_appEvent rfl _ _ rfl rfl (hRa _ _).out (y := wholeE ev) rfl (hg_new (by simp)) (by omega) (by simp; omega) (fun v' w' hS' hg => ?_); obtain ⟨za2, zcap2, rfl⟩ := ERow.form hS')
              have hrow := (hRa (.cells #[.int .i64 ev.kind, .int .i64 ev.a, .int .i64 ev.b, .int .i64 60, .bool false] 31) (.cells #[.int .i64 ev.kind, .int .i64 ev.a, .int .i64 ev.b, .int .i64 60, .bool false] 31)).out
              have hg2 : ((wr.alloc (.cells #[.int .i64 ev.kind, .int .i64 ev.a, .int .i64 ev.b, .int .i64 60, .bool false] 31)).alloc (.cells #[.int .i64 ev.kind, .int .i64 ev.a, .int .i64 ev.b, .int .i64 60, .bool false] 31)).grownBy w' (Value.slice za zs.length zcap).ownBlock := hg
              have XA := ext_grown (ext_alloc (ext_alloc X _) _) (ERow.weak hrow (by omega)) hg2
              have XB := ext_grown (ext_alloc (ext_alloc XE _) _) (ERow.weak hrow (by omega)) hg2
              replace G13 := keep_grown (hg_alloc (hg_alloc G13)) (by decide) hrow hg2
              replace G14 := keep_grown (hg_alloc (hg_alloc G14)) (by decide) hrow hg2
              have G16 : w'.heap[wr.heap.size]? = some (.cells #[.int .i64 ev.kind, .int .i64 ev.a, .int .i64 ev.b, .int .i64 60, .bool false] 31 (0, 0)) := by
                rw [hg2.block _ (by simp; omega) (fun e => by have := (HR.out.lt _ e.symm).2; omega)]; exact hg_alloc (hg_new rfl)
              have hO2 := HO.out.ext (ext_alloc (ext_alloc (ext_refl wr) (.cells #[.int .i64 ev.kind, .int .i64 ev.a, .int .i64 ev.b, .int .i64 60, .bool false] 31)) (.cells #[.int .i64 ev.kind, .int .i64 ev.a, .int .i64 ev.b, .int .i64 60, .bool false] 31))
              have HO3 := Lib.hid (hO2.keep (w' := w') fun b hb => hg2.block b (hO2.lt b hb) fun e => (HM.out b hb).1 e.symm)
              have HR3 : Hid (ERow (w5.heap.size + 1) w' (.slice za2 (zs ++ [wholeE ev]).length zcap2) (zs ++ [wholeE ev])) := Lib.hid hS'
              have hsz := hg2.size
              simp at hsz
              have HMM := Lib.hid fun b hb => (HM.out b hb).2
              clear hg hg2 hrow hRa hO2 HO HR HM hS' X XE q0 q1 q2 q3 q4
              have hsm := small_ok2 HOK.out
              have HPS : Hid (∀ wz, Ext w' wz → Calls Try.prog 20 #[.agg #[.slice b1 m1 k1, .slice b2 m2 k2], eventA (wholeE ev)] wz (StLRet wz (playSteps s (wholeE ev)))) := Lib.hid fun wz hx => (implPlaySteps_c _ _ s (wholeE ev) wz ⟨(HO3.out.ext hx).flash, (HO3.out.ext hx).disk⟩ HOK.out).mono fun _ _ h => h.toR
              have HPD : Hid (∀ wz, OwnStore wz (.slice b1 m1 k1) (.slice b2 m2 k2) s M → Calls Try.prog 21 #[.agg #[.slice b1 m1 k1, .slice b2 m2 k2], eventA (wholeE ev)] wz (StoreΦ wz (doV s (wholeE ev)))) := Lib.hid fun wz ho => implPlayDo_c _ _ s (wholeE ev) wz ⟨ho.flash, ho.disk⟩ hsm (by unfold wholeE; dsimp only; omega)
              have HAD : Hid (∀ wz, (playSteps s (wholeE ev)).length ≤ 7 → Calls Try.prog 18 #[costA acc, costA (costOf (playSteps s (wholeE ev)))] wz (Ret wz (costA (costSum acc (costOf (playSteps s (wholeE ev))))))) := Lib.hid fun wz hl => by
                have := implCostAdd_c acc (costOf (playSteps s (wholeE ev))) wz
                rwa [show costAdd acc (costOf (playSteps s (wholeE ev))) = costSum acc (costOf (playSteps s (wholeE ev))) by unfold costAdd; rw [costOk_of HB.out (by omega), costOf_ok (by omega)]; rfl] at this
              refine wp_region_ext [3, 4, 5] [0, 1, 2, 3, 4, 5] [] [6] (by kernel_rfl) (by kernel_rfl) ?late ?_
              case late => exact fun f hf => absurd hf List.not_mem_nil
              iterate 3
                refine Rob.y (v := ?_) rfl rfl (fun w1 hx hH => ?_) ?_; rotate_left
                · (have hE : Ext w' w1 := (by first | exact hx | exact hx.1); obtain ⟨z3, zf3⟩ := cellsK (keep_ext hE G13); obtain ⟨u0, u1, u2, uf⟩ := cells3 (keep_ext hE G14); obtain ⟨z7, zf7⟩ := cellsK (keep_ext hE G16)); go_simp; first | done | rfl
                simp only [Act.put, List.setIfInBounds_toArray, List.set_cons_succ, List.set_cons_zero]
              refine Rob.c (fun _ _ v w' => StL w' v (playSteps s (wholeE ev)) ∧ (playSteps s (wholeE ev)).length ≤ 7) rfl rfl rfl (fun _ _ => (by intro h k; revert h; (repeat' (first | exact fun h => ext_trans h k | exact fun h => StL.ext h k | exact fun h => h | refine And.imp ?_ ?_)))) (fun _ _ _ _ _ => fun hh hx => ⟨hh.1.ext hx, hh.2⟩) (fun w1 hx hH => ?_) (fun lo3 hi3 v3 hlo3 hhi3 hv3 => ?_)
              · unfold RunTo; go_simp; exact (HPS.out _ hx).mono fun e w' h => h.to
              simp only [Act.put, List.setIfInBounds_toArray, List.set_cons_succ, List.set_cons_zero]
              refine Rob.cv (costA (costOf (playSteps s (wholeE ev)))) rfl rfl rfl (fun _ _ => (by intro h k; revert h; (repeat' (first | exact fun h => ext_trans h k | exact fun h => StL.ext h k | exact fun h => h | refine And.imp ?_ ?_)))) (fun w1 hx hH => ?_) (fun lo4 hi4 hlo4 hhi4 => ?_)
              · unfold RunTo; go_simp; exact (implCostOf_c _ _ _ hx.2.1.1 (by have := hx.2.2; omega)).mono fun e w' h => h.to
              simp only [Act.put, List.setIfInBounds_toArray, List.set_cons_succ, List.set_cons_zero]
              refine Rob.cv (costA (costSum acc (costOf (playSteps s (wholeE ev))))) rfl rfl rfl (fun _ _ => (by intro h k; revert h; (repeat' (first | exact fun h => ext_trans h k | exact fun h => StL.ext h k | exact fun h => h | refine And.imp ?_ ?_)))) (fun w1 hx hH => ?_) (fun lo5 hi5 hlo5 hhi5 => ?_)
              · unfold RunTo; go_simp; exact (HAD.out _ hx.2.2).mono fun e w' h => h.to
              simp only [Act.put, List.setIfInBounds_toArray, List.set_cons_succ, List.set_cons_zero]
              refine fin_tail (fun w7 hx7 _ => ?_)
              have hl7 := hx7.2.2
              replace hx7 := hx7.1
              simp only [dstOf, List.getElem?_cons_succ, List.getElem?_cons_zero, Option.bind_some, Act.put, List.setIfInBounds_toArray, List.set_cons_succ, List.set_cons_zero, List.filterMap_cons, List.filterMap_nil]
              have hW := whole_cost HOK.out ev h4
              obtain ⟨cb, hcb⟩ : ∃ cc, costOf (playSteps s (wholeE ev)) = cc := ⟨_, rfl⟩
              have HBD : Hid (costBound cb 42) := Lib.hid (by have := costOf_bound (playSteps s (wholeE ev)); rw [hcb] at this; unfold costBound at *; omega)
              rw [hcb] at hW ⊢
              have HW := Lib.hid hW
              replace G13 := keep_ext hx7 G13
              replace G14 := keep_ext hx7 G14
              replace G16 := keep_ext hx7 G16
              replace HO3 := Lib.hid (HO3.out.ext hx7)
              replace HR3 := Lib.hid (HR3.out.ext hx7)
              replace XA := ext_trans XA hx7
              replace XB := ext_trans XB hx7
              have hsz7 := hx7.size
              clear hx7 hl7 hW hcb HPS HAD hsm h4
              obtain ⟨w8, hw8, G148, C8⟩ := sets3 G14 (costSum acc cb)
              have hrn := erow_ne HR3.out G14 (by decide)
              have hrn2 := erow_ne HR3.out G13 (by decide)
              obtain ⟨u0, u1, u2, uf⟩ := cells3 G14
              have l14 := heap_lt G14
              replace HR3 := Lib.hid (erow_keep HR3.out fun g hg hl => C8.block g hl (by simp; rintro rfl; exact hrn hg))
              replace HO3 := Lib.hid (HO3.out.chg C8 fun b hb hx => (HMM.out b hb).2 (by simpa using hx))
              replace G13 := C8.keep G13 (by simp)
              replace G16 := C8.keep G16 (by simp; omega)
              replace XA := C8.ext XA (by simp; omega)
              replace XB := C8.ext XB (by simp; omega)
              have hsz8 := C8.size
              clear C8 G14
              obtain ⟨g13, gf13⟩ := cellsK G13
              obtain ⟨g16, gf16⟩ := cellsK G16
              have l13 := heap_lt G13
              have l16 := heap_lt G16
              go_wp2_with fail
              refine (HPD.out _ HO3.out).mono ?_; rintro e9 w9 ⟨v9, M9, rfl, hx9, hL9, hM9⟩
              obtain ⟨b5, m5, k5, b6, m6, k6, rfl⟩ := hL9.forms
              have hO9 : OwnStore w9 (.slice b5 m5 k5) (.slice b6 m6 k6) (playDoS s (wholeE ev)) M9 := doV_own HOK.out hL9
              replace G13 := keep_ext hx9 G13
              replace G148 := keep_ext hx9 G148
              have hlt9 := HR3.out.lt
              have HLT9 := Lib.hid hlt9
              replace HR3 := Lib.hid (HR3.out.ext hx9)
              replace XA := ext_trans XA hx9
              replace XB := ext_trans XB hx9
              have hsz9 := hx9.size
              clear hx9 hL9 HO3 HPD g13 gf13 g16 gf16 hw8 u0 u1 u2 uf G16 hlt9
              obtain ⟨w10, hw10, G1310, C10⟩ := setsS G13 (.slice b5 m5 k5) (.slice b6 m6 k6)
              obtain ⟨g13, gf13⟩ := cellsK G13
              have l13 := heap_lt G13
              have HR10 := Lib.hid (erow_keep HR3.out fun g hg hl => C10.block g hl (by simp; rintro rfl; exact hrn2 hg))
              have HO10 := Lib.hid (hO9.chg C10 fun b hb hx => by have := hM9 b hb; simp at hx; omega)
              replace G148 := C10.keep G148 (by simp)
              replace XA := C10.ext XA (by simp; omega)
              replace XB := C10.ext XB (by simp; omega)
              have hsz10 := C10.size
              clear C10 hO9 hrn hrn2
              rw [show (zs ++ [wholeE ev]).length = zs.length + 1 by simp] at HR10 HLT9
              go_wp2_with fail
              try rw [hw10]
              refine ⟨⟨k + 1, zs ++ [wholeE ev], costSum acc cb, _, _, M9, by go_num, by omega, by simp; omega, XA, XB, HR10, Lib.hid fun x hx => ?_, Lib.hid ?_, Lib.hid fun b hb => ⟨fun e => ?_, ?_, ?_⟩, Lib.hid ?_, Lib.hid ?_, G1310, G148, by omega⟩, by simp [intOf]; omega⟩
              · rcases List.mem_append.1 hx with hx | hx
                · exact HZ.out x hx
                · obtain rfl := List.mem_singleton.1 hx; rfl
              · rw [evStore_snoc, HSV.out]; exact HO10.out
              · have := hM9 b hb
                have := (HLT9.out b e).2
                omega
              · have := hM9 b hb; omega
              · have := hM9 b hb; omega
              · rw [run_snoc, HSV.out, HW.out, ← HA.out]
              · have h1 := HB.out
                have h2 := HBD.out
                unfold costBound costSum at *
                dsimp only
                push_cast
                omega
          · obtain rfl : k = es.length := by omega
            have hW := implCostRun_c _ zs wr HR.out.events (fun e he => by rw [HZ.out e he]; omega) (by omega)
            rw [if_pos (by omega), decide_eq_true (show zs.length ≤ 60 by omega), show runCost zs = acc from HA.out.symm] at hW
            obtain ⟨u0, u1, u2, uf⟩ := cells3 G14
            go_wp2_with fail
            refine hW.mono ?_; rintro e7 w7 ⟨rfl, hx7⟩
            have XA := ext_trans X hx7
            replace G14 := keep_ext hx7 G14
            have l14 := heap_lt G14
            clear hW u0 u1 u2 uf hx7
            obtain ⟨u0, u1, u2, uf⟩ := cells3 G14
            go_wp2_with fail
            refine (lqC acc _).mono ?_; rintro e8 w8 ⟨rfl, hx8⟩
            go_wp2_with fail
            go_ret
            exact ⟨rfl, ext_trans (ext_alloc XA _) hx8⟩
      · rw [if_neg h60, decide_eq_false h60] at hS
        simp only [if_neg h60, decide_eq_false h60] at hI
        go_wp2_with fail
        refine hS.mono ?_; rintro e2 w2 ⟨rfl, hx2⟩
        go_wp2_with fail
        refine (hI _ (ext_alloc hx2 _)).mono ?_; rintro e3 w3 ⟨rfl, hx3⟩
        have X13 : Ext w1 w3 := ext_trans (ext_alloc hx2 _) hx3
        have G6 := keep_ext hx3 (hg_new (w := w2) (x := .cells #[.int .i64 cost0.writes, .int .i64 cost0.wipes, .int .i64 cost0.disks] 26) (b := w2.heap.size) rfl)
        obtain ⟨g6, gf6⟩ := cellsK G6
        have l6 := heap_lt G6
        clear hS hI hx2 hx3
        go_wp2_with fail
        refine (lqC cost0 _).mono ?_; rintro e4 w4 ⟨rfl, hx4⟩
        have X14 : Ext w1 w4 := ext_trans (ext_alloc X13 _) hx4
        have X34 : Ext w3 w4 := ext_trans (ext_alloc (ext_refl w3) _) hx4
        have G8 := keep_ext hx4 (hg_new (w := w3) (x := .cells #[.int .i64 cost0.writes, .int .i64 cost0.wipes, .int .i64 cost0.disks] 26) (b := w3.heap.size) rfl)
        replace G6 := keep_ext X34 G6
        clear g6 gf6 l6 hx4 X34 X13
        obtain ⟨g6, gf6⟩ := cellsK G6
        obtain ⟨g8, gf8⟩ := cellsK G8
        have l6 := heap_lt G6
        have l8 := heap_lt G8
        go_wp2_with fail
        refine (lqC cost0 _).mono ?_; rintro e5 w5 ⟨rfl, hx5⟩
        go_wp2_with fail
        go_ret
        exact ⟨rfl, ext_trans X1 (ext_trans X14 hx5)⟩
    · go_enter Try.func7, Try.ntmps7
      go_wp2_with fail
      go_ret
      exact ⟨rfl, ext_refl _⟩
  · go_enter Try.func7, Try.ntmps7
    go_wp2_with fail
    all_goals
      go_ret
      exact ⟨rfl, ext_refl _⟩
end Go.Bu

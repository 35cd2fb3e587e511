/- The reference's cost of events. -/
import Derived.Test.YtggcomepaloneaaZ7
import Derived.Test.YtggcomepaloneaaZ5
import Derived.Lib.MinMax
set_option maxHeartbeats 2000000
set_option linter.unusedVariables false
set_option linter.unusedSimpArgs false
namespace Go.Bu
open Go Go.RowKit Go.Plan Go.Proofs

def StepsRet (w : World) (xs : List Step) (e : Ending) (w' : World) : Prop := ∃ v, e = .returned v ∧ Ext w w' ∧ Steps' (Old w') w' v xs
theorem StepsRet.to {w w' : World} {xs : List Step} {e : Ending} (h : StepsRet w xs e w') : ∃ v, e = .returned v ∧ RetC w (fun _ _ v w' => Steps' (Old w') w' v xs) v w' := h

set_option maxRecDepth 20000 in
set_option maxHeartbeats 1000000 in
theorem l22Done_c (sv : Value) (xs : List Step) (e : Event) (w : World) (h : Steps' (Old w) w sv xs) (hl : xs.length ≤ 1000) (hcap : ∀ a n c, sv = .slice a n c → n ≤ c) :
    Calls Try.prog 27 #[sv, eventA e] w (StepsRet w (xs.take (if e.c < 0 then 0 else (begunN xs.length e.c e.torn).toNat))) := by
  obtain ⟨a, cap, rfl⟩ := h.form
  obtain ⟨ek, ea, eb, ec, et⟩ := e
  have hcc := hcap _ _ _ rfl
  have hT := fun (n : Nat) (hn : n ≤ xs.length) => Sl.take' h n hn
  have hfin : ∀ (M : Nat) (ys : List Step) (o : Obj), M ≤ xs.length → ys = xs.take M → StepsRet w ys (.returned (.slice a M cap)) (w.alloc o) := fun M ys o hM he => ⟨_, rfl, ext_alloc (ext_refl _) _, by rw [he]; exact Steps'.ext (hT M hM) (ext_alloc (ext_refl _) _)⟩
  have HF := Lib.hid hfin
  clear hT h hcap hfin
  unfold begunN
  dsimp only
  go_enter Try.func27, Try.ntmps27
  go_wp2_with fail
  all_goals (try (exfalso; omega))
  all_goals (try simp only [beq_iff_eq, Bool.not_eq_true, beq_eq_false_iff_ne, ne_eq] at *)
  all_goals go_ret
  all_goals
    refine HF.out _ _ _ (by omega) ?_
    first
      | (congr 1; omega)
      | (rw [show (min (max ec 0) (xs.length : Int)).toNat = 0 by omega]; rfl)

/-- steps that may be read, and cut -/
def StL (w : World) (v : Value) (xs : List Step) : Prop := Steps' (Old w) w v xs ∧ ∀ a n c, v = .slice a n c → n ≤ c
theorem StL.ext {w w' : World} {v : Value} {xs : List Step} (h : StL w v xs) (hx : Ext w w') : StL w' v xs := ⟨Steps'.ext h.1 hx, h.2⟩
theorem SRow.cut {base : Nat} {w : World} {v : Value} {xs : List Step} (h : SRow base w v xs) : StL w v xs := by
  refine ⟨h.steps, fun a n c hv => ?_⟩
  obtain ⟨h1, h2⟩ := h
  rcases h2 with ⟨h2, _⟩ | ⟨g, cap, cur, h2, _, _, h3, _⟩
  · rw [h2] at hv; injection hv; omega
  · rw [h2] at hv; injection hv; omega
theorem RetS.toL {w w' : World} {xs : List Step} {e : Ending} (h : RetS w xs e w') : ∃ v, e = .returned v ∧ RetC w (fun _ _ v w' => StL w' v xs ∧ xs.length ≤ 7) v w' := by
  obtain ⟨v, h1, h2, h3, h4⟩ := h
  exact ⟨v, h1, h2, h3.cut, h4⟩
def StLRet (w : World) (xs : List Step) (e : Ending) (w' : World) : Prop := ∃ v, e = .returned v ∧ Ext w w' ∧ (StL w' v xs ∧ xs.length ≤ 7)
theorem StLRet.to {w w' : World} {xs : List Step} {e : Ending} (h : StLRet w xs e w') : ∃ v, e = .returned v ∧ RetC w (fun _ _ v w' => StL w' v xs ∧ xs.length ≤ 7) v w' := h
theorem RetS.toR {w w' : World} {xs : List Step} {e : Ending} (h : RetS w xs e w') : StLRet w xs e w' := let ⟨v, h1, h2, h3, h4⟩ := h; ⟨v, h1, h2, h3.cut, h4⟩
theorem fv_4 {c : SC} {s : Store} (h : StoreP s) : c.fv s = c.f4 ∧ c.dv s = c.d6 := by
  constructor
  · simp only [SC.fv, h.lens.1]; rfl
  · simp only [SC.dv, h.lens.2]; rfl
theorem l21Do_4 (c : SC) (s : Store) (e : Event) (w : World) (h : OwnS c w s) (hs : StoreP s) :
    Calls Try.prog 29 #[.agg #[c.f4, c.d6], eventA e] w (fun en w' => en = .returned (.agg #[c.f4, c.d6]) ∧ Chg c.L w w' ∧ OwnS c w' (playDoS s e)) := by
  have := l21Do_c c s e w h hs
  rw [(fv_4 hs).1, (fv_4 hs).2] at this
  exact this.mono fun en w' ⟨h1, h2, h3⟩ => ⟨by rw [h1, (fv_4 (hs.play e)).1, (fv_4 (hs.play e)).2], h2, h3⟩
theorem l12To_4 (c : SC) (s : Store) (sv : Value) (xs : List Step) (w : World) (h : OwnS c w s) (hs : StoreP s) (hx : StepsAt c w sv xs) (hf : ∀ x ∈ xs, StepOk x) (hn : xs.length ≤ 1000) :
    Calls Try.prog 31 #[.agg #[c.f4, c.d6], sv, .int .i64 xs.length, .bool false] w (fun en w' => en = .returned (.agg #[c.f4, c.d6]) ∧ Chg c.L w w' ∧ OwnS c w' (doAll s xs)) := by
  have := l12To_c c s sv xs xs.length false w h hs.shape hx (fun x hm => (hf x hm).fit) hn (by omega)
  rw [(fv_4 hs).1, (fv_4 hs).2, toSteps_all] at this
  exact this.mono fun en w' ⟨h1, h2, h3⟩ => ⟨by rw [h1, (fv_4 (hs.all hf)).1, (fv_4 (hs.all hf)).2], h2, h3⟩
theorem begun_take (s : Store) (e : Event) (h4 : e.kind ≠ 4) : begunS s e = (playSteps s e).take (if e.c < 0 then 0 else (begunN (playSteps s e).length e.c e.torn).toNat) := by
  unfold begunS
  rw [if_neg h4]
  split <;> simp

set_option maxRecDepth 20000 in
set_option maxHeartbeats 1000000 in
theorem specCostRun_c (v : Value) (xs : List Event) (w : World) (h : Events (Old w) w v xs) (hc : ∀ e ∈ xs, -9223372036854775808 ≤ e.c ∧ e.c ≤ 9223372036854775807) (hn : xs.length ≤ 1048576) :
    Calls Try.prog 10 #[v] w (Ret w (.tuple #[costA (if xs.length ≤ 60 then runCost xs else cost0), .bool (decide (xs.length ≤ 60))])) := by
  obtain ⟨a, cap, rfl⟩ := h.form
  by_cases h60 : xs.length ≤ 60
  · rw [if_pos h60, decide_eq_true h60]
    go_enter Try.func10, Try.ntmps10
    go_wp2_with fail
    refine (specStoreNew_c _).mono ?_; rintro e1 w1 ⟨f, d, L, rfl, hx1, hO1, hn1, hb1⟩
    obtain ⟨c, rfl, rfl, rfl, hOS⟩ := hO1.at4 hn1 (storeOk_P storeOk_new)
    have X1 : Ext w w1 := ext_trans (ext_alloc (ext_refl w) _) hx1
    have G2 : w1.heap[w.heap.size]? = some (.cells (costC cost0).toArray 26 (0, 0)) := keep_ext hx1 (hg_new rfl)
    have HLB : Hid (∀ x ∈ c.L, w.heap.size < x ∧ x < w1.heap.size) := Lib.hid fun x hm => ⟨by have := hb1 x hm; simp at this; omega, hOS.lt x hm⟩
    have s1 := heap_lt G2
    clear hO1 hn1 hb1 hx1
    go_wp2_with fail
    go_loopw [6] (fun y wr => ∃ (k : Nat) (acc : Cost), y = .int .i64 k ∧ k ≤ xs.length ∧ Ext w wr ∧ Hid (OwnS c wr (evStore newStore (xs.take k))) ∧ Hid (costBound acc (42 * k)) ∧ Hid (acc = sumCost ((evCosts newStore xs).take k)) ∧ wr.heap[w1.heap.size]? = some (.cells #[c.f4, c.d6] 41 (0, 0)) ∧ wr.heap[w1.heap.size + 1]? = some (.cells (costC acc).toArray 26 (0, 0)) ∧ wr.heap[w.heap.size]? = some (.cells (costC cost0).toArray 26 (0, 0))) (fun y _ => xs.length - (intOf y).toNat)
    case atStart => exact ⟨0, cost0, rfl, by omega, ext_alloc (ext_alloc X1 _) _, Lib.hid (hOS.ext (ext_alloc (ext_alloc (ext_refl _) _) _)), Lib.hid (by unfold costBound cost0; decide), Lib.hid rfl, hg_alloc (hg_new rfl), hg_new (by simp), hg_alloc (hg_alloc G2)⟩
    case round =>
      clear G2 hOS X1
      obtain ⟨k, acc, rfl, hk, X, HO, HB, HS, G4, G5, G2⟩ := hrel
      have l4 := heap_lt G4
      have l5 := heap_lt G5
      by_cases hlt : k < xs.length
      · have hok := evStore_ok (xs.take k) newStore storeOk_new
        have HP := Lib.hid (storeOk_P hok)
        obtain ⟨eb, eo, rfl, hbe, q0, q1, q2, q3, q4⟩ := (h.ext X).at5 hlt
        have ET := Lib.hid (evStore_take newStore xs k hlt)
        have CT := Lib.hid (evCosts_take xs newStore k hlt)
        obtain ⟨s, hs⟩ : ∃ s, evStore newStore (xs.take k) = s := ⟨_, rfl⟩
        obtain ⟨ev, hev⟩ : ∃ e, xs[k] = e := ⟨_, rfl⟩
        rw [hs] at HO HP ET CT
        rw [hev] at ET CT q0 q1 q2 q3 q4
        clear hs hev hok
        by_cases h4 : ev.kind = 4
        · obtain ⟨kd, ea, eb2, ec, et⟩ := ev
          obtain rfl : kd = 4 := h4
          have HEV : Hid (playDoS s ⟨4, ea, eb2, ec, et⟩ = (allPair s).1 ∧ begunS s ⟨4, ea, eb2, ec, et⟩ = (allPair s).2) := Lib.hid ⟨by rw [allPair_fst]; rfl, rfl⟩
          go_wp2_with fail
          have G7 := hg_new (w := wr) (x := .cells #[.int .i64 4, .int .i64 ea, .int .i64 eb2, .int .i64 ec, .bool et] 31) (b := wr.heap.size) rfl
          have Ye : Ext wr (wr.alloc (.cells #[.int .i64 4, .int .i64 ea, .int .i64 eb2, .int .i64 ec, .bool et] 31)) := ext_alloc (ext_refl _) _
          replace G4 := keep_ext Ye G4
          replace G5 := keep_ext Ye G5
          replace G2 := keep_ext Ye G2
          replace HO := Lib.hid (HO.out.ext Ye)
          replace X := ext_trans X Ye
          clear Ye q0 q1 q2 q3 q4
          generalize wr.alloc (.cells #[.int .i64 4, .int .i64 ea, .int .i64 eb2, .int .i64 ec, .bool et] 31) = wd at *
          clear G7
          go_loopw [8] (fun y wi => ∃ (j : Nat) (t : Store) (st : List Step) (ac2 : Cost), y = .int .i64 ((j : Int) + 1) ∧ j ≤ 6 ∧ Ext w wi ∧ Hid (OwnS c wi t) ∧ Hid (StoreP t) ∧ Hid (costBound ac2 (42 * k + 7 * j)) ∧ Hid (st.length ≤ 7 * j) ∧ Hid (ac2 = costSum acc (costOf st)) ∧ Hid ((addrs6.drop j).foldl allPairStep (t, st) = allPair s) ∧
            wi.heap[w1.heap.size]? = some (.cells #[c.f4, c.d6] 41 (0, 0)) ∧ wi.heap[w1.heap.size + 1]? = some (.cells (costC ac2).toArray 26 (0, 0)) ∧ wi.heap[w.heap.size]? = some (.cells (costC cost0).toArray 26 (0, 0))) (fun y _ => 7 - (intOf y).toNat)
          case atStart => exact ⟨0, s, [], acc, rfl, by omega, X, HO, HP, Lib.hid (by simpa using HB.out), Lib.hid (by simp), Lib.hid (by unfold costSum costOf cost0; simp), Lib.hid rfl, G4, G5, G2⟩
          case round =>
            clear HO G4 G5 G2 X
            obtain ⟨j, t, st, ac2, rfl, hj, X, HO, HT, HB2, HST, HA2, HR, G4, G5, G2⟩ := hrel
            have l4 := heap_lt G4
            have l5 := heap_lt G5
            by_cases hj6 : j < 6
            · have hq := addrStep_at (flushSteps t) j hj6
              have hfo := flush_ok (flashOk_iff.1 HT.out.flash) hj6
              have hfl := flush_le HT.out.flash j
              have ht := toSteps_all t (flushSteps t j)
              have hsp := HT.out.allStep hj6
              rw [foldl_drop _ _ _ _ hj6, addrs6_get hj6, show allPairStep (t, st) j = (doAll t (flushSteps t j), st ++ flushSteps t j) from rfl] at HR
              rw [show allStep t j = doAll t (flushSteps t j) from rfl] at hsp
              have HTS := Lib.hid ht; have HFO := Lib.hid hfo; have HQ := Lib.hid hq; have HSP := Lib.hid hsp
              have hlt1 := HO.out.lt
              have HLT := Lib.hid hlt1
              clear ht hfo hq hsp hlt1
              obtain ⟨g4, gf4⟩ := cellsK G4
              go_wp2_with fail
              refine (l12Flush_c c.f4 c.d6 t ((j : Int) + 1) _ (HO.out.at4 HT.out) HT.out).mono ?_; rintro e1 w2 ⟨sv, rfl, hx2, hSv, hsl⟩
              rw [HQ.out] at hSv hsl
              obtain ⟨sa, scap, rfl⟩ := hSv.form
              obtain ⟨FS, hFS⟩ : ∃ l, flushSteps t j = l := ⟨_, rfl⟩
              rw [hFS] at hSv hsl HR HFO HSP ⊢
              have HSR := Lib.hid hSv
              have HLO := HO.out.lt
              have HLO := Lib.hid HLO
              replace G4 := keep_ext hx2 G4
              replace G5 := keep_ext hx2 G5
              replace G2 := keep_ext hx2 G2
              replace HO := Lib.hid (HO.out.ext hx2)
              replace X := ext_trans X hx2
              have sz := hx2.size
              have HAD : Hid (∀ w', Calls Try.prog 26 #[costA ac2, costA (costOf FS)] w' (Ret w' (costA (costSum ac2 (costOf FS))))) := Lib.hid fun w' => l22Add_c _ _ _ (costOk_of HB2.out (by omega)) (costOf_ok (by omega))
              clear hx2 hSv hFS HQ HTS hfl g4 gf4
              go_wp2_with fail
              refine wp_region_ext [2, 3] [0, 1, 2, 3] [] [4] (by kernel_rfl) (by kernel_rfl) ?late ?_
              case late => exact fun f hf => absurd hf List.not_mem_nil
              refine Rob.y (v := ?_) rfl rfl (fun w1 hx hH => ?_) ?_; rotate_left
              · (have hE : Ext w2 w1 := (by first | exact hx | exact hx.1); obtain ⟨u0, u1, u2, uf⟩ := cells3 (keep_ext hE G5)); go_simp; first | done | rfl
              simp only [Act.put, List.setIfInBounds_toArray, List.set_cons_succ, List.set_cons_zero]
              refine Rob.y (v := ?_) rfl rfl (fun w1 hx hH => ?_) ?_; rotate_left
              · go_simp; first | done | rfl | exact (Bool.not_not _).symm
              simp only [Act.put, List.setIfInBounds_toArray, List.set_cons_succ, List.set_cons_zero]
              refine Rob.cv (costA (costOf FS)) rfl rfl rfl (fun _ _ => ext_trans) (fun w1 hx hH => ?_) (fun lo2 hi2 hlo2 hhi2 => ?_)
              · unfold RunTo; go_simp; exact (specCostOf_c _ FS _ (Steps'.ext HSR.out.steps hx) (by omega)).mono fun e w' h => h.to
              simp only [Act.put, List.setIfInBounds_toArray, List.set_cons_succ, List.set_cons_zero]
              refine Rob.cv (costA (costSum ac2 (costOf FS))) rfl rfl rfl (fun _ _ => ext_trans) (fun w1 hx hH => ?_) (fun lo3 hi3 hlo3 hhi3 => ?_)
              · unfold RunTo; go_simp; exact (HAD.out _).mono fun e w' h => h.to
              simp only [Act.put, List.setIfInBounds_toArray, List.set_cons_succ, List.set_cons_zero]
              refine fin_tail (fun w6 hx6 _ => ?_)
              simp only [dstOf, List.getElem?_cons_succ, List.getElem?_cons_zero, Option.bind_some, Act.put, List.setIfInBounds_toArray, List.set_cons_succ, List.set_cons_zero, List.filterMap_cons, List.filterMap_nil]
              replace G4 := keep_ext hx6 G4
              replace G5 := keep_ext hx6 G5
              replace G2 := keep_ext hx6 G2
              replace HO := Lib.hid (HO.out.ext hx6)
              replace X := ext_trans X hx6
              replace HSR := Lib.hid (HSR.out.ext hx6)
              have hbd := costOf_bound FS
              have HBD : Hid (costBound (costOf FS) 7) := Lib.hid (by unfold costBound at *; omega)
              have HAPP : Hid (costOf (st ++ FS) = costSum (costOf st) (costOf FS)) := Lib.hid (costOf_app st FS)
              obtain ⟨cb, hcb⟩ : ∃ cc, costOf FS = cc := ⟨_, rfl⟩
              rw [hcb] at HBD HAPP ⊢
              have sz6 := hx6.size
              clear hcb hbd hx6 HAD
              obtain ⟨w7, hw7, G57, C7⟩ := sets3 G5 (costSum ac2 cb)
              obtain ⟨u0, u1, u2, uf⟩ := cells3 G5
              have l5' := heap_lt G5
              have hsr7 := srow_chg HSR.out C7 (by simp; omega)
              have HAT : Hid (StepsAt c w7 (.slice sa FS.length scap) FS) := Lib.hid (SRow.at_ hsr7 fun b hb hm => by have := HLO.out b hm; omega)
              replace G4 := C7.keep G4 (by simp <;> omega)
              replace G2 := C7.keep G2 (by simp; omega)
              replace HO := Lib.hid (HO.out.chg C7 fun x hm hx => by have := HLB.out x hm; simp at hx; omega)
              replace X := C7.ext X (by simp; omega)
              clear G5 C7 hsr7 HSR
              obtain ⟨g4, gf4⟩ := cellsK G4
              have l4' := heap_lt G4
              go_wp2_with fail
              refine (l12To_4 c t _ FS w7 HO.out HT.out HAT.out HFO.out (by omega)).mono ?_; rintro e8 w8 ⟨rfl, C8, hO8⟩
              have hn1 : w1.heap.size ∉ c.L := fun hm => by have := HLB.out _ hm; omega
              have hn2 : w1.heap.size + 1 ∉ c.L := fun hm => by have := HLB.out _ hm; omega
              have hn3 : w.heap.size ∉ c.L := fun hm => by have := HLB.out _ hm; omega
              replace G4 := C8.keep G4 hn1
              replace G57 := C8.keep G57 hn2
              replace G2 := C8.keep G2 hn3
              replace X := C8.ext X (fun x hx => by have := HLB.out x hx; omega)
              clear C8 HO hw7 u0 u1 u2 uf g4 gf4 hn1 hn2 hn3 HAT
              obtain ⟨w9, hw9, G49, C9⟩ := setsS G4 c.f4 c.d6
              obtain ⟨g4, gf4⟩ := cellsK G4
              have l4'' := heap_lt G4
              replace G57 := C9.keep G57 (by simp)
              replace G2 := C9.keep G2 (by simp; omega)
              replace X := C9.ext X (by simp; omega)
              have HO9 := Lib.hid (hO8.chg C9 fun x hm hx => by have := HLB.out x hm; simp at hx; omega)
              clear C9 hO8
              go_wp2_with fail
              try rw [hw9]
              refine ⟨⟨j + 1, doAll t FS, st ++ FS, costSum ac2 cb, by go_num, by omega, X, HO9, HSP, Lib.hid ?_, Lib.hid ?_, Lib.hid ?_, HR, G49, G57, G2⟩, by simp [intOf]; omega⟩
              · have h1 := HB2.out
                have h2 := HBD.out
                unfold costBound costSum at *
                dsimp only
                push_cast
                omega
              · have := HST.out; rw [List.length_append]; omega
              · rw [HAPP.out, HA2.out]; unfold costSum; simp only [Int.add_assoc]
            · obtain rfl : j = 6 := by omega
              have hr : (t, st) = allPair s := HR.out
              have ht : t = playDoS s ⟨4, ea, eb2, ec, et⟩ := by rw [HEV.out.1, ← hr]
              have hs2 : begunS s ⟨4, ea, eb2, ec, et⟩ = st := by rw [HEV.out.2, ← hr]
              obtain ⟨cb, hcb⟩ : ∃ cc, costOf st = cc := ⟨_, rfl⟩
              have HCB : Hid (evCost s ⟨4, ea, eb2, ec, et⟩ = cb) := Lib.hid (by unfold evCost; rw [hs2, hcb])
              rw [hcb] at HA2
              have HO9 : Hid (OwnS c wr (playDoS s ⟨4, ea, eb2, ec, et⟩)) := Lib.hid (by rw [← ht]; exact HO.out)
              have hac : ac2 = costSum acc cb := HA2.out
              subst hac
              clear hr ht hs2 hcb HR HO HST HA2
              go_wp2_with fail
              refine ⟨⟨k + 1, costSum acc cb, by go_num, by omega, X, by rw [ET.out]; exact HO9, Lib.hid ?_, Lib.hid ?_, G4, G5, G2⟩, by simp [intOf]; omega⟩
              · have h1 := HB2.out
                unfold costBound costSum at *
                dsimp only at *
                push_cast at *
                omega
              · rw [CT.out, HCB.out]
                unfold sumCost
                rw [List.foldl_append, HS.out]; rfl
        · have h4f : (ev.kind == 4) = false := by simpa using h4
          go_wp2_with fail
          have G7 := hg_new (w := wr) (x := .cells #[.int .i64 ev.kind, .int .i64 ev.a, .int .i64 ev.b, .int .i64 ev.c, .bool ev.torn] 31) (b := wr.heap.size) rfl
          have Ye : Ext wr (wr.alloc (.cells #[.int .i64 ev.kind, .int .i64 ev.a, .int .i64 ev.b, .int .i64 ev.c, .bool ev.torn] 31)) := ext_alloc (ext_refl _) _
          replace G4 := keep_ext Ye G4
          replace G5 := keep_ext Ye G5
          replace G2 := keep_ext Ye G2
          replace HO := Lib.hid (HO.out.ext Ye)
          replace X := ext_trans X Ye
          clear Ye q0 q1 q2 q3 q4
          generalize wr.alloc (.cells #[.int .i64 ev.kind, .int .i64 ev.a, .int .i64 ev.b, .int .i64 ev.c, .bool ev.torn] 31) = wd at *
          have HBG := Lib.hid (begun_take s ev h4)
          have HPS : Hid (∀ w', OwnS c w' s → Calls Try.prog 28 #[.agg #[c.f4, c.d6], eventA ev] w' (StLRet w' (playSteps s ev))) := Lib.hid fun w' ho => (l21Steps_c c.f4 c.d6 s ev w' (ho.at4 HP.out) HP.out).mono fun _ _ h => h.toR
          have HDN : Hid (∀ w' v, StL w' v (playSteps s ev) ∧ (playSteps s ev).length ≤ 7 → Calls Try.prog 27 #[v, eventA ev] w' (StepsRet w' (begunS s ev))) := Lib.hid fun w' v hv => by
            rw [HBG.out]; exact l22Done_c v _ ev w' hv.1.1 (by omega) hv.1.2
          have HAD : Hid (∀ w', (begunS s ev).length ≤ 42 → Calls Try.prog 26 #[costA acc, costA (costOf (begunS s ev))] w' (Ret w' (costA (costSum acc (costOf (begunS s ev)))))) := Lib.hid fun w' hl => l22Add_c _ _ _ (costOk_of HB.out (by omega)) (costOf_ok (by omega))
          have HLN : Hid ((playSteps s ev).length ≤ 7 → (begunS s ev).length ≤ 42) := Lib.hid fun hl => by rw [HBG.out, List.length_take]; omega
          refine wp_region_ext [3, 5, 6, 7] [0, 1, 2, 4, 3, 5, 6, 7] [] [8] (by kernel_rfl) (by kernel_rfl) ?late ?_
          case late => exact fun f hf => absurd hf List.not_mem_nil
          iterate 4
            refine Rob.y (v := ?_) rfl rfl (fun w1 hx hH => ?_) ?_; rotate_left
            · (have hE : Ext wd w1 := (by first | exact hx | exact hx.1 | exact hx.1.1 | exact hx.1.1.1); obtain ⟨z4, zf4⟩ := cellsK (keep_ext hE G4); obtain ⟨u0, u1, u2, uf⟩ := cells3 (keep_ext hE G5); obtain ⟨z7, zf7⟩ := cellsK (keep_ext hE G7)); go_simp; first | done | rfl
            simp only [Act.put, List.setIfInBounds_toArray, List.set_cons_succ, List.set_cons_zero]
          refine Rob.c (fun _ _ v w' => StL w' v (playSteps s ev) ∧ (playSteps s ev).length ≤ 7) rfl rfl rfl (fun _ _ => (by intro h k; revert h; (repeat' (first | exact fun h => ext_trans h k | exact fun h => Steps'.ext h k | exact fun h => StL.ext h k | exact fun h => h | refine And.imp ?_ ?_)))) (fun _ _ _ _ _ => fun hh hx => by first | exact Steps'.ext hh hx | exact ⟨hh.1.ext hx, hh.2⟩) (fun w1 hx hH => ?_) (fun lo3 hi3 v3 hlo3 hhi3 hv3 => ?_)
          · unfold RunTo; go_simp; exact (HPS.out _ (HO.out.ext hx)).mono fun e w' h => h.to
          simp only [Act.put, List.setIfInBounds_toArray, List.set_cons_succ, List.set_cons_zero]
          refine Rob.c (fun _ _ v w' => Steps' (Old w') w' v (begunS s ev)) rfl rfl rfl (fun _ _ => (by intro h k; revert h; (repeat' (first | exact fun h => ext_trans h k | exact fun h => Steps'.ext h k | exact fun h => StL.ext h k | exact fun h => h | refine And.imp ?_ ?_)))) (fun _ _ _ _ _ => fun hh hx => by first | exact Steps'.ext hh hx | exact ⟨hh.1.ext hx, hh.2⟩) (fun w1 hx hH => ?_) (fun lo5 hi5 v5 hlo5 hhi5 hv5 => ?_)
          · unfold RunTo; go_simp; exact (HDN.out _ _ hx.2).mono fun e w' h => h.to
          simp only [Act.put, List.setIfInBounds_toArray, List.set_cons_succ, List.set_cons_zero]
          refine Rob.cv (costA (costOf (begunS s ev))) rfl rfl rfl (fun _ _ => (by intro h k; revert h; (repeat' (first | exact fun h => ext_trans h k | exact fun h => Steps'.ext h k | exact fun h => StL.ext h k | exact fun h => h | refine And.imp ?_ ?_)))) (fun w1 hx hH => ?_) (fun lo6 hi6 hlo6 hhi6 => ?_)
          · unfold RunTo; go_simp; exact (specCostOf_c _ _ _ hx.2 (by have := HLN.out hx.1.2.2; omega)).mono fun e w' h => h.to
          simp only [Act.put, List.setIfInBounds_toArray, List.set_cons_succ, List.set_cons_zero]
          refine Rob.cv (costA (costSum acc (costOf (begunS s ev)))) rfl rfl rfl (fun _ _ => (by intro h k; revert h; (repeat' (first | exact fun h => ext_trans h k | exact fun h => Steps'.ext h k | exact fun h => StL.ext h k | exact fun h => h | refine And.imp ?_ ?_)))) (fun w1 hx hH => ?_) (fun lo7 hi7 hlo7 hhi7 => ?_)
          · unfold RunTo; go_simp; exact (HAD.out _ (HLN.out hx.1.2.2)).mono fun e w' h => h.to
          simp only [Act.put, List.setIfInBounds_toArray, List.set_cons_succ, List.set_cons_zero]
          refine fin_tail (fun w6 hx6 _ => ?_)
          have hl42 := HLN.out hx6.1.2.2
          have X6 : Ext wd w6 := hx6.1.1
          simp only [dstOf, List.getElem?_cons_succ, List.getElem?_cons_zero, Option.bind_some, Act.put, List.setIfInBounds_toArray, List.set_cons_succ, List.set_cons_zero, List.filterMap_cons, List.filterMap_nil]
          replace G4 := keep_ext X6 G4
          replace G5 := keep_ext X6 G5
          replace G2 := keep_ext X6 G2
          replace G7 := keep_ext X6 G7
          replace HO := Lib.hid (HO.out.ext X6)
          replace X := ext_trans X X6
          have hbd := costOf_bound (begunS s ev)
          have HBD : Hid (costBound (costOf (begunS s ev)) 42) := Lib.hid (by unfold costBound at *; omega)
          obtain ⟨cb, hcb⟩ : ∃ cc, costOf (begunS s ev) = cc := ⟨_, rfl⟩
          have HCB : Hid (evCost s ev = cb) := Lib.hid hcb
          rw [hcb] at HBD ⊢
          clear hcb hbd hl42 hx6 X6 HBG HPS HDN HAD HLN
          obtain ⟨w7, hw7, G57, C7⟩ := sets3 G5 (costSum acc cb)
          obtain ⟨u0, u1, u2, uf⟩ := cells3 G5
          have l5' := heap_lt G5
          replace G4 := C7.keep G4 (by simp <;> omega)
          replace G2 := C7.keep G2 (by simp; omega)
          replace G7 := C7.keep G7 (by simp; omega)
          replace HO := Lib.hid (HO.out.chg C7 fun x hm hx => by have := HLB.out x hm; simp at hx; omega)
          replace X := C7.ext X (by simp; omega)
          clear G5 C7
          obtain ⟨g4, gf4⟩ := cellsK G4
          obtain ⟨g7, gf7⟩ := cellsK G7
          have l4' := heap_lt G4
          have l7 := heap_lt G7
          go_wp2_with fail
          refine (l21Do_4 c s ev w7 HO.out HP.out).mono ?_; rintro e8 w8 ⟨rfl, C8, hO8⟩
          have hn1 : w1.heap.size ∉ c.L := fun hm => by have := HLB.out _ hm; omega
          have hn2 : w1.heap.size + 1 ∉ c.L := fun hm => by have := HLB.out _ hm; omega
          have hn3 : w.heap.size ∉ c.L := fun hm => by have := HLB.out _ hm; omega
          replace G4 := C8.keep G4 hn1
          replace G57 := C8.keep G57 hn2
          replace G2 := C8.keep G2 hn3
          replace X := C8.ext X (fun x hx => by have := HLB.out x hx; omega)
          clear C8 G7 HO hw7 u0 u1 u2 uf g4 gf4 g7 gf7 hn1 hn2 hn3
          obtain ⟨w9, hw9, G49, C9⟩ := setsS G4 c.f4 c.d6
          obtain ⟨g4, gf4⟩ := cellsK G4
          have l4'' := heap_lt G4
          replace G57 := C9.keep G57 (by simp)
          replace G2 := C9.keep G2 (by simp; omega)
          replace X := C9.ext X (by simp; omega)
          have HO9 := Lib.hid (hO8.chg C9 fun x hm hx => by have := HLB.out x hm; simp at hx; omega)
          clear C9 hO8
          go_wp2_with fail
          try rw [hw9]
          refine ⟨⟨k + 1, costSum acc cb, by go_num, by omega, X, by rw [ET.out]; exact HO9, Lib.hid ?_, Lib.hid ?_, G49, G57, G2⟩, by simp [intOf]; omega⟩
          · have h1 := HB.out
            have h2 := HBD.out
            unfold costBound costSum at *
            dsimp only
            push_cast
            omega
          · rw [CT.out, HCB.out]
            unfold sumCost
            rw [List.foldl_append, HS.out]; rfl
      · obtain rfl : k = xs.length := by omega
        obtain ⟨w9, hw9, G29, C9⟩ := sets3 G2 acc
        obtain ⟨u0, u1, u2, uf⟩ := cells3 G5
        obtain ⟨v0, v1, v2, vf⟩ := cells3 G2
        have l2 := heap_lt G2
        have X9 := C9.ext X (by simp)
        go_wp2_with fail
        try rw [hw9]
        obtain ⟨t0, t1, t2, tf⟩ := cells3 G29
        refine bodyPost_ret (v := .tuple #[costA acc, .bool true]) (by simp [results, Try.results10, go_sem, t0, t1, t2, tf]) rfl ⟨?_, X9⟩
        rw [HS.out, List.take_of_length_le (by rw [evCosts_len]; exact Nat.le_refl _)]; rfl
  · rw [if_neg h60, decide_eq_false h60]
    go_enter Try.func10, Try.ntmps10
    go_wp2_with fail
    obtain ⟨q, qf⟩ := cellsK (hg_new (w := w) (x := .cells #[.int .i64 0, .int .i64 0, .int .i64 0] 26) (b := w.heap.size) rfl)
    exact bodyPost_ret (v := .tuple #[costA cost0, .bool false]) (by simp [results, Try.results10, go_sem, q, qf, cost0]) rfl ⟨rfl, ext_alloc (ext_refl _) _⟩
end Go.Bu

/- The reference's cost of events. The law FnCostRun holds of every input. What a whole write leaves, and what it costs: plain. What events cost: plain. What puts cost; what is flushed twice: plain. -/
import Derived.Test.YtggcomepaloneaaZ7
import Derived.Test.YtggcomepaloneaaZ5
import Derived.Lib.MinMax
set_option maxHeartbeats 2000000
set_option linter.unusedVariables false
set_option linter.unusedSimpArgs false
namespace Go.Bu
open Go Go.RowKit Go.Plan Go.Proofs

def StepsRet (w : World) (xs : List Step) (e : Ending) (w' : World) : Prop := ∃ v, e = .returned v ∧ Ext w w' ∧ Steps' (Old w') w' v xs
theorem StepsRet.to {w w' : World} {xs : List Step} {e : Ending} (h : StepsRet w xs e w') : ∃ v, e = .returned v ∧ RetC w (fun _ _ v w' => Steps' (Old w') w' v xs) v w' := h

set_option maxRecDepth 20000 in
set_option maxHeartbeats 1000000 in
theorem l22Done_c (sv : Value) (xs : List Step) (e : Event) (w : World) (h : Steps' (Old w) w sv xs) (hl : xs.length ≤ 1000) (hcap : ∀ a n c, sv = .slice a n c → n ≤ c) :
    Calls Try.prog 27 #[sv, eventA e] w (StepsRet w (xs.take (if e.c < 0 then 0 else (begunN xs.length e.c e.torn).toNat))) := by
  obtain ⟨a, cap, rfl⟩ := h.form
  obtain ⟨ek, ea, eb, ec, et⟩ := e
  have hcc := hcap _ _ _ rfl
  have hT := fun (n : Nat) (hn : n ≤ xs.length) => Sl.take' h n hn
  have hfin : ∀ (M : Nat) (ys : List Step) (o : Obj), M ≤ xs.length → ys = xs.take M → StepsRet w ys (.returned (.slice a M cap)) (w.alloc o) := fun M ys o hM he => ⟨_, rfl, ext_alloc (ext_refl _) _, by rw [he]; exact Steps'.ext (hT M hM) (ext_alloc (ext_refl _) _)⟩
  have HF := Lib.hid hfin
  clear hT h hcap hfin
  unfold begunN
  dsimp only
  go_enter Try.func27, Try.ntmps27
  go_wp2_with fail
  all_goals (try (exfalso; omega))
  all_goals (try simp only [beq_iff_eq, Bool.not_eq_true, beq_eq_false_iff_ne, ne_eq] at *)
  all_goals go_ret
  all_goals
    refine HF.out _ _ _ (by omega) ?_
    first
      | (congr 1; omega)
      | (rw [show (min (max ec 0) (xs.length : Int)).toNat = 0 by omega]; rfl)

/-- steps that may be read, and cut -/
def StL (w : World) (v : Value) (xs : List Step) : Prop := Steps' (Old w) w v xs ∧ ∀ a n c, v = .slice a n c → n ≤ c
theorem StL.ext {w w' : World} {v : Value} {xs : List Step} (h : StL w v xs) (hx : Ext w w') : StL w' v xs := ⟨Steps'.ext h.1 hx, h.2⟩
theorem SRow.cut {base : Nat} {w : World} {v : Value} {xs : List Step} (h : SRow base w v xs) : StL w v xs := by
  refine ⟨h.steps, fun a n c hv => ?_⟩
  obtain ⟨h1, h2⟩ := h
  rcases h2 with ⟨h2, _⟩ | ⟨g, cap, cur, h2, _, _, h3, _⟩
  · rw [h2] at hv; injection hv; omega
  · rw [h2] at hv; injection hv; omega
theorem RetS.toL {w w' : World} {xs : List Step} {e : Ending} (h : RetS w xs e w') : ∃ v, e = .returned v ∧ RetC w (fun _ _ v w' => StL w' v xs ∧ xs.length ≤ 7) v w' := by
  obtain ⟨v, h1, h2, h3, h4⟩ := h
  exact ⟨v, h1, h2, h3.cut, h4⟩
def StLRet (w : World) (xs : List Step) (e : Ending) (w' : World) : Prop := ∃ v, e = .returned v ∧ Ext w w' ∧ (StL w' v xs ∧ xs.length ≤ 7)
theorem StLRet.to {w w' : World} {xs : List Step} {e : Ending} (h : StLRet w xs e w') : ∃ v, e = .returned v ∧ RetC w (fun _ _ v w' => StL w' v xs ∧ xs.length ≤ 7) v w' := h
theorem RetS.toR {w w' : World} {xs : List Step} {e : Ending} (h : RetS w xs e w') : StLRet w xs e w' := let ⟨v, h1, h2, h3, h4⟩ := h; ⟨v, h1, h2, h3.cut, h4⟩
theorem fv_4 {c : SC} {s : Store} (h : StoreP s) : c.fv s = c.f4 ∧ c.dv s = c.d6 := by
  constructor
  · simp only [SC.fv, h.lens.1]; rfl
  · simp only [SC.dv, h.lens.2]; rfl
theorem l21Do_4 (c : SC) (s : Store) (e : Event) (w : World) (h : OwnS c w s) (hs : StoreP s) :
    Calls Try.prog 29 #[.agg #[c.f4, c.d6], eventA e] w (fun en w' => en = .returned (.agg #[c.f4, c.d6]) ∧ Chg c.L w w' ∧ OwnS c w' (playDoS s e)) := by
  have := l21Do_c c s e w h hs
  rw [(fv_4 hs).1, (fv_4 hs).2] at this
  exact this.mono fun en w' ⟨h1, h2, h3⟩ => ⟨by rw [h1, (fv_4 (hs.play e)).1, (fv_4 (hs.play e)).2], h2, h3⟩
theorem l12To_4 (c : SC) (s : Store) (sv : Value) (xs : List Step) (w : World) (h : OwnS c w s) (hs : StoreP s) (hx : StepsAt c w sv xs) (hf : ∀ x ∈ xs, StepOk x) (hn : xs.length ≤ 1000) :
    Calls Try.prog 31 #[.agg #[c.f4, c.d6], sv, .int .i64 xs.length, .bool false] w (fun en w' => en = .returned (.agg #[c.f4, c.d6]) ∧ Chg c.L w w' ∧ OwnS c w' (doAll s xs)) := by
  have := l12To_c c s sv xs xs.length false w h hs.shape hx (fun x hm => (hf x hm).fit) hn (by omega)
  rw [(fv_4 hs).1, (fv_4 hs).2, toSteps_all] at this
  exact this.mono fun en w' ⟨h1, h2, h3⟩ => ⟨by rw [h1, (fv_4 (hs.all hf)).1, (fv_4 (hs.all hf)).2], h2, h3⟩
theorem begun_take (s : Store) (e : Event) (h4 : e.kind ≠ 4) : begunS s e = (playSteps s e).take (if e.c < 0 then 0 else (begunN (playSteps s e).length e.c e.torn).toNat) := by
  unfold begunS
  rw [if_neg h4]
  split <;> simp

set_option maxRecDepth 20000 in
set_option maxHeartbeats 1000000 in
theorem specCostRun_c (v : Value) (xs : List Event) (w : World) (h : Events (Old w) w v xs) (hc : ∀ e ∈ xs, -9223372036854775808 ≤ e.c ∧ e.c ≤ 9223372036854775807) (hn : xs.length ≤ 1048576) :
    Calls Try.prog 10 #[v] w (Ret w (.tuple #[costA (if xs.length ≤ 60 then runCost xs else cost0), .bool (decide (xs.length ≤ 60))])) := by
  obtain ⟨a, cap, rfl⟩ := h.form
  by_cases h60 : xs.length ≤ 60
  · rw [if_pos h60, decide_eq_true h60]
    go_enter Try.func10, Try.ntmps10
    go_wp2_with fail
    refine (specStoreNew_c _).mono ?_; rintro e1 w1 ⟨f, d, L, rfl, hx1, hO1, hn1, hb1⟩
    obtain ⟨c, rfl, rfl, rfl, hOS⟩ := hO1.at4 hn1 (storeOk_P storeOk_new)
    have X1 : Ext w w1 := ext_trans (ext_alloc (ext_refl w) _) hx1
    have G2 : w1.heap[w.heap.size]? = some (.cells (costC cost0).toArray 26 (0, 0)) := keep_ext hx1 (hg_new rfl)
    have HLB : Hid (∀ x ∈ c.L, w.heap.size < x ∧ x < w1.heap.size) := Lib.hid fun x hm => ⟨by have := hb1 x hm; simp at this; omega, hOS.lt x hm⟩
    have s1 := heap_lt G2
    clear hO1 hn1 hb1 hx1
    go_wp2_with fail
    go_loopw [6] (fun y wr => ∃ (k : Nat) (acc : Cost), y = .int .i64 k ∧ k ≤ xs.length ∧ Ext w wr ∧ Hid (OwnS c wr (evStore newStore (xs.take k))) ∧ Hid (costBound acc (42 * k)) ∧ Hid (acc = sumCost ((evCosts newStore xs).take k)) ∧ wr.heap[w1.heap.size]? = some (.cells #[c.f4, c.d6] 41 (0, 0)) ∧ wr.heap[w1.heap.size + 1]? = some (.cells (costC acc).toArray 26 (0, 0)) ∧ wr.heap[w.heap.size]? = some (.cells (costC cost0).toArray 26 (0, 0))) (fun y _ => xs.length - (intOf y).toNat)
    case atStart => exact ⟨0, cost0, rfl, by omega, ext_alloc (ext_alloc X1 _) _, Lib.hid (hOS.ext (ext_alloc (ext_alloc (ext_refl _) _) _)), Lib.hid (by unfold costBound cost0; decide), Lib.hid rfl, hg_alloc (hg_new rfl), hg_new (by simp), hg_alloc (hg_alloc G2)⟩
    case round =>
      clear G2 hOS X1
      obtain ⟨k, acc, rfl, hk, X, HO, HB, HS, G4, G5, G2⟩ := hrel
      have l4 := heap_lt G4
      have l5 := heap_lt G5
      by_cases hlt : k < xs.length
      · have hok := evStore_ok (xs.take k) newStore storeOk_new
        have HP := Lib.hid (storeOk_P hok)
        obtain ⟨eb, eo, rfl, hbe, q0, q1, q2, q3, q4⟩ := (h.ext X).at5 hlt
        have ET := Lib.hid (evStore_take newStore xs k hlt)
        have CT := Lib.hid (evCosts_take xs newStore k hlt)
        obtain ⟨s, hs⟩ : ∃ s, evStore newStore (xs.take k) = s := ⟨_, rfl⟩
        obtain ⟨ev, hev⟩ : ∃ e, xs[k] = e := ⟨_, rfl⟩
        rw [hs] at HO HP ET CT
        rw [hev] at ET CT q0 q1 q2 q3 q4
        clear hs hev hok
        by_cases h4 : ev.kind = 4
        · obtain ⟨kd, ea, eb2, ec, et⟩ := ev
          obtain rfl : kd = 4 := h4
          have HEV : Hid (playDoS s ⟨4, ea, eb2, ec, et⟩ = (allPair s).1 ∧ begunS s ⟨4, ea, eb2, ec, et⟩ = (allPair s).2) := Lib.hid ⟨by rw [allPair_fst]; rfl, rfl⟩
          go_wp2_with fail
          have G7 := hg_new (w := wr) (x := .cells #[.int .i64 4, .int .i64 ea, .int .i64 eb2, .int .i64 ec, .bool et] 31) (b := wr.heap.size) rfl
          have Ye : Ext wr (wr.alloc (.cells #[.int .i64 4, .int .i64 ea, .int .i64 eb2, .int .i64 ec, .bool et] 31)) := ext_alloc (ext_refl _) _
          replace G4 := keep_ext Ye G4
          replace G5 := keep_ext Ye G5
          replace G2 := keep_ext Ye G2
          replace HO := Lib.hid (HO.out.ext Ye)
          replace X := ext_trans X Ye
          clear Ye q0 q1 q2 q3 q4
          generalize wr.alloc (.cells #[.int .i64 4, .int .i64 ea, .int .i64 eb2, .int .i64 ec, .bool et] 31) = wd at *
          clear G7
          go_loopw [8] (fun y wi => ∃ (j : Nat) (t : Store) (st : List Step) (ac2 : Cost), y = .int .i64 ((j : Int) + 1) ∧ j ≤ 6 ∧ Ext w wi ∧ Hid (OwnS c wi t) ∧ Hid (StoreP t) ∧ Hid (costBound ac2 (42 * k + 7 * j)) ∧ Hid (st.length ≤ 7 * j) ∧ Hid (ac2 = costSum acc (costOf st)) ∧ Hid ((addrs6.drop j).foldl allPairStep (t, st) = allPair s) ∧
            wi.heap[w1.heap.size]? = some (.cells #[c.f4, c.d6] 41 (0, 0)) ∧ wi.heap[w1.heap.size + 1]? = some (.cells (costC ac2).toArray 26 (0, 0)) ∧ wi.heap[w.heap.size]? = some (.cells (costC cost0).toArray 26 (0, 0))) (fun y _ => 7 - (intOf y).toNat)
          case atStart => exact ⟨0, s, [], acc, rfl, by omega, X, HO, HP, Lib.hid (by simpa using HB.out), Lib.hid (by simp), Lib.hid (by unfold costSum costOf cost0; simp), Lib.hid rfl, G4, G5, G2⟩
          case round =>
            clear HO G4 G5 G2 X
            obtain ⟨j, t, st, ac2, rfl, hj, X, HO, HT, HB2, HST, HA2, HR, G4, G5, G2⟩ := hrel
            have l4 := heap_lt G4
            have l5 := heap_lt G5
            by_cases hj6 : j < 6
            · have hq := addrStep_at (flushSteps t) j hj6
              have hfo := flush_ok (flashOk_iff.1 HT.out.flash) hj6
              have hfl := flush_le HT.out.flash j
              have ht := toSteps_all t (flushSteps t j)
              have hsp := HT.out.allStep hj6
              rw [foldl_drop _ _ _ _ hj6, addrs6_get hj6, show allPairStep (t, st) j = (doAll t (flushSteps t j), st ++ flushSteps t j) from rfl] at HR
              rw [show allStep t j = doAll t (flushSteps t j) from rfl] at hsp
              have HTS := Lib.hid ht; have HFO := Lib.hid hfo; have HQ := Lib.hid hq; have HSP := Lib.hid hsp
              have hlt1 := HO.out.lt
              have HLT := Lib.hid hlt1
              clear ht hfo hq hsp hlt1
              obtain ⟨g4, gf4⟩ := cellsK G4
              go_wp2_with fail
              refine (l12Flush_c c.f4 c.d6 t ((j : Int) + 1) _ (HO.out.at4 HT.out) HT.out).mono ?_; rintro e1 w2 ⟨sv, rfl, hx2, hSv, hsl⟩
              rw [HQ.out] at hSv hsl
              obtain ⟨sa, scap, rfl⟩ := hSv.form
              obtain ⟨FS, hFS⟩ : ∃ l, flushSteps t j = l := ⟨_, rfl⟩
              rw [hFS] at hSv hsl HR HFO HSP ⊢
              have HSR := Lib.hid hSv
              have HLO := HO.out.lt
              have HLO := Lib.hid HLO
              replace G4 := keep_ext hx2 G4
              replace G5 := keep_ext hx2 G5
              replace G2 := keep_ext hx2 G2
              replace HO := Lib.hid (HO.out.ext hx2)
              replace X := ext_trans X hx2
              have sz := hx2.size
              have HAD : Hid (∀ w', Calls Try.prog 26 #[costA ac2, costA (costOf FS)] w' (Ret w' (costA (costSum ac2 (costOf FS))))) := Lib.hid fun w' => l22Add_c _ _ _ (costOk_of HB2.out (by omega)) (costOf_ok (by omega))
              clear hx2 hSv hFS HQ HTS hfl g4 gf4
              go_wp2_with fail
              refine wp_region_ext [2, 3] [0, 1, 2, 3] [] [4] (by kernel_rfl) (by kernel_rfl) ?late ?_
              case late => exact fun f hf => absurd hf List.not_mem_nil
              refine Rob.y (v := ?_) rfl rfl (fun w1 hx hH => ?_) ?_; rotate_left
              · (have hE : Ext w2 w1 := (by first | exact hx | exact hx.1); obtain ⟨u0, u1, u2, uf⟩ := cells3 (keep_ext hE G5)); go_simp; first | done | rfl
              simp only [Act.put, List.setIfInBounds_toArray, List.set_cons_succ, List.set_cons_zero]
              refine Rob.y (v := ?_) rfl rfl (fun w1 hx hH => ?_) ?_; rotate_left
              · go_simp; first | done | rfl | exact (Bool.not_not _).symm
              simp only [Act.put, List.setIfInBounds_toArray, List.set_cons_succ, List.set_cons_zero]
              refine Rob.cv (costA (costOf FS)) rfl rfl rfl (fun _ _ => ext_trans) (fun w1 hx hH => ?_) (fun lo2 hi2 hlo2 hhi2 => ?_)
              · unfold RunTo; go_simp; exact (specCostOf_c _ FS _ (Steps'.ext HSR.out.steps hx) (by omega)).mono fun e w' h => h.to
              simp only [Act.put, List.setIfInBounds_toArray, List.set_cons_succ, List.set_cons_zero]
              refine Rob.cv (costA (costSum ac2 (costOf FS))) rfl rfl rfl (fun _ _ => ext_trans) (fun w1 hx hH => ?_) (fun lo3 hi3 hlo3 hhi3 => ?_)
              · unfold RunTo; go_simp; exact (HAD.out _).mono fun e w' h => h.to
              simp only [Act.put, List.setIfInBounds_toArray, List.set_cons_succ, List.set_cons_zero]
              refine fin_tail (fun w6 hx6 _ => ?_)
              simp only [dstOf, List.getElem?_cons_succ, List.getElem?_cons_zero, Option.bind_some, Act.put, List.setIfInBounds_toArray, List.set_cons_succ, List.set_cons_zero, List.filterMap_cons, List.filterMap_nil]
              replace G4 := keep_ext hx6 G4
              replace G5 := keep_ext hx6 G5
              replace G2 := keep_ext hx6 G2
              replace HO := Lib.hid (HO.out.ext hx6)
              replace X := ext_trans X hx6
              replace HSR := Lib.hid (HSR.out.ext hx6)
              have hbd := costOf_bound FS
              have HBD : Hid (costBound (costOf FS) 7) := Lib.hid (by unfold costBound at *; omega)
              have HAPP : Hid (costOf (st ++ FS) = costSum (costOf st) (costOf FS)) := Lib.hid (costOf_app st FS)
              obtain ⟨cb, hcb⟩ : ∃ cc, costOf FS = cc := ⟨_, rfl⟩
              rw [hcb] at HBD HAPP ⊢
              have sz6 := hx6.size
              clear hcb hbd hx6 HAD
              obtain ⟨w7, hw7, G57, C7⟩ := sets3 G5 (costSum ac2 cb)
              obtain ⟨u0, u1, u2, uf⟩ := cells3 G5
              have l5' := heap_lt G5
              have hsr7 := srow_chg HSR.out C7 (by simp; omega)
              have HAT : Hid (StepsAt c w7 (.slice sa FS.length scap) FS) := Lib.hid (SRow.at_ hsr7 fun b hb hm => by have := HLO.out b hm; omega)
              replace G4 := C7.keep G4 (by simp <;> omega)
              replace G2 := C7.keep G2 (by simp; omega)
              replace HO := Lib.hid (HO.out.chg C7 fun x hm hx => by have := HLB.out x hm; simp at hx; omega)
              replace X := C7.ext X (by simp; omega)
              clear G5 C7 hsr7 HSR
              obtain ⟨g4, gf4⟩ := cellsK G4
              have l4' := heap_lt G4
              go_wp2_with fail
              refine (l12To_4 c t _ FS w7 HO.out HT.out HAT.out HFO.out (by omega)).mono ?_; rintro e8 w8 ⟨rfl, C8, hO8⟩
              have hn1 : w1.heap.size ∉ c.L := fun hm => by have := HLB.out _ hm; omega
              have hn2 : w1.heap.size + 1 ∉ c.L := fun hm => by have := HLB.out _ hm; omega
              have hn3 : w.heap.size ∉ c.L := fun hm => by have := HLB.out _ hm; omega
              replace G4 := C8.keep G4 hn1
              replace G57 := C8.keep G57 hn2
              replace G2 := C8.keep G2 hn3
              replace X := C8.ext X (fun x hx => by have := HLB.out x hx; omega)
              clear C8 HO hw7 u0 u1 u2 uf g4 gf4 hn1 hn2 hn3 HAT
              obtain ⟨w9, hw9, G49, C9⟩ := setsS G4 c.f4 c.d6
              obtain ⟨g4, gf4⟩ := cellsK G4
              have l4'' := heap_lt G4
              replace G57 := C9.keep G57 (by simp)
              replace G2 := C9.keep G2 (by simp; omega)
              replace X := C9.ext X (by simp; omega)
              have HO9 := Lib.hid (hO8.chg C9 fun x hm hx => by have := HLB.out x hm; simp at hx; omega)
              clear C9 hO8
              go_wp2_with fail
              try rw [hw9]
              refine ⟨⟨j + 1, doAll t FS, st ++ FS, costSum ac2 cb, by go_num, by omega, X, HO9, HSP, Lib.hid ?_, Lib.hid ?_, Lib.hid ?_, HR, G49, G57, G2⟩, by simp [intOf]; omega⟩
              · have h1 := HB2.out
                have h2 := HBD.out
                unfold costBound costSum at *
                dsimp only
                push_cast
                omega
              · have := HST.out; rw [List.length_append]; omega
              · rw [HAPP.out, HA2.out]; unfold costSum; simp only [Int.add_assoc]
            · obtain rfl : j = 6 := by omega
              have hr : (t, st) = allPair s := HR.out
              have ht : t = playDoS s ⟨4, ea, eb2, ec, et⟩ := by rw [HEV.out.1, ← hr]
              have hs2 : begunS s ⟨4, ea, eb2, ec, et⟩ = st := by rw [HEV.out.2, ← hr]
              obtain ⟨cb, hcb⟩ : ∃ cc, costOf st = cc := ⟨_, rfl⟩
              have HCB : Hid (evCost s ⟨4, ea, eb2, ec, et⟩ = cb) := Lib.hid (by unfold evCost; rw [hs2, hcb])
              rw [hcb] at HA2
              have HO9 : Hid (OwnS c wr (playDoS s ⟨4, ea, eb2, ec, et⟩)) := Lib.hid (by rw [← ht]; exact HO.out)
              have hac : ac2 = costSum acc cb := HA2.out
              subst hac
              clear hr ht hs2 hcb HR HO HST HA2
              go_wp2_with fail
              refine ⟨⟨k + 1, costSum acc cb, by go_num, by omega, X, by rw [ET.out]; exact HO9, Lib.hid ?_, Lib.hid ?_, G4, G5, G2⟩, by simp [intOf]; omega⟩
              · have h1 := HB2.out
                unfold costBound costSum at *
                dsimp only at *
                push_cast at *
                omega
              · rw [CT.out, HCB.out]
                unfold sumCost
                rw [List.foldl_append, HS.out]; rfl
        · have h4f : (ev.kind == 4) = false := by simpa using h4
          go_wp2_with fail
          have G7 := hg_new (w := wr) (x := .cells #[.int .i64 ev.kind, .int .i64 ev.a, .int .i64 ev.b, .int .i64 ev.c, .bool ev.torn] 31) (b := wr.heap.size) rfl
          have Ye : Ext wr (wr.alloc (.cells #[.int .i64 ev.kind, .int .i64 ev.a, .int .i64 ev.b, .int .i64 ev.c, .bool ev.torn] 31)) := ext_alloc (ext_refl _) _
          replace G4 := keep_ext Ye G4
          replace G5 := keep_ext Ye G5
          replace G2 := keep_ext Ye G2
          replace HO := Lib.hid (HO.out.ext Ye)
          replace X := ext_trans X Ye
          clear Ye q0 q1 q2 q3 q4
          generalize wr.alloc (.cells #[.int .i64 ev.kind, .int .i64 ev.a, .int .i64 ev.b, .int .i64 ev.c, .bool ev.torn] 31) = wd at *
          have HBG := Lib.hid (begun_take s ev h4)
          have HPS : Hid (∀ w', OwnS c w' s → Calls Try.prog 28 #[.agg #[c.f4, c.d6], eventA ev] w' (StLRet w' (playSteps s ev))) := Lib.hid fun w' ho => (l21Steps_c c.f4 c.d6 s ev w' (ho.at4 HP.out) HP.out).mono fun _ _ h => h.toR
          have HDN : Hid (∀ w' v, StL w' v (playSteps s ev) ∧ (playSteps s ev).length ≤ 7 → Calls Try.prog 27 #[v, eventA ev] w' (StepsRet w' (begunS s ev))) := Lib.hid fun w' v hv => by
            rw [HBG.out]; exact l22Done_c v _ ev w' hv.1.1 (by omega) hv.1.2
          have HAD : Hid (∀ w', (begunS s ev).length ≤ 42 → Calls Try.prog 26 #[costA acc, costA (costOf (begunS s ev))] w' (Ret w' (costA (costSum acc (costOf (begunS s ev)))))) := Lib.hid fun w' hl => l22Add_c _ _ _ (costOk_of HB.out (by omega)) (costOf_ok (by omega))
          have HLN : Hid ((playSteps s ev).length ≤ 7 → (begunS s ev).length ≤ 42) := Lib.hid fun hl => by rw [HBG.out, List.length_take]; omega
          refine wp_region_ext [3, 5, 6, 7] [0, 1, 2, 4, 3, 5, 6, 7] [] [8] (by kernel_rfl) (by kernel_rfl) ?late ?_
          case late => exact fun f hf => absurd hf List.not_mem_nil
          iterate 4
            refine Rob.y (v := ?_) rfl rfl (fun w1 hx hH => ?_) ?_; rotate_left
            · (have hE : Ext wd w1 := (by first | exact hx | exact hx.1 | exact hx.1.1 | exact hx.1.1.1); obtain ⟨z4, zf4⟩ := cellsK (keep_ext hE G4); obtain ⟨u0, u1, u2, uf⟩ := cells3 (keep_ext hE G5); obtain ⟨z7, zf7⟩ := cellsK (keep_ext hE G7)); go_simp; first | done | rfl
            simp only [Act.put, List.setIfInBounds_toArray, List.set_cons_succ, List.set_cons_zero]
          refine Rob.c (fun _ _ v w' => StL w' v (playSteps s ev) ∧ (playSteps s ev).length ≤ 7) rfl rfl rfl (fun _ _ => (by intro h k; revert h; (repeat' (first | exact fun h => ext_trans h k | exact fun h => Steps'.ext h k | exact fun h => StL.ext h k | exact fun h => h | refine And.imp ?_ ?_)))) (fun _ _ _ _ _ => fun hh hx => by first | exact Steps'.ext hh hx | exact ⟨hh.1.ext hx, hh.2⟩) (fun w1 hx hH => ?_) (fun lo3 hi3 v3 hlo3 hhi3 hv3 => ?_)
          · unfold RunTo; go_simp; exact (HPS.out _ (HO.out.ext hx)).mono fun e w' h => h.to
          simp only [Act.put, List.setIfInBounds_toArray, List.set_cons_succ, List.set_cons_zero]
          refine Rob.c (fun _ _ v w' => Steps' (Old w') w' v (begunS s ev)) rfl rfl rfl (fun _ _ => (by intro h k; revert h; (repeat' (first | exact fun h => ext_trans h k | exact fun h => Steps'.ext h k | exact fun h => StL.ext h k | exact fun h => h | refine And.imp ?_ ?_)))) (fun _ _ _ _ _ => fun hh hx => by first | exact Steps'.ext hh hx | exact ⟨hh.1.ext hx, hh.2⟩) (fun w1 hx hH => ?_) (fun lo5 hi5 v5 hlo5 hhi5 hv5 => ?_)
          · unfold RunTo; go_simp; exact (HDN.out _ _ hx.2).mono fun e w' h => h.to
          simp only [Act.put, List.setIfInBounds_toArray, List.set_cons_succ, List.set_cons_zero]
          refine Rob.cv (costA (costOf (begunS s ev))) rfl rfl rfl (fun _ _ => (by intro h k; revert h; (repeat' (first | exact fun h => ext_trans h k | exact fun h => Steps'.ext h k | exact fun h => StL.ext h k | exact fun h => h | refine And.imp ?_ ?_)))) (fun w1 hx hH => ?_) (fun lo6 hi6 hlo6 hhi6 => ?_)
          · unfold RunTo; go_simp; exact (specCostOf_c _ _ _ hx.2 (by have := HLN.out hx.1.2.2; omega)).mono fun e w' h => h.to
          simp only [Act.put, List.setIfInBounds_toArray, List.set_cons_succ, List.set_cons_zero]
          refine Rob.cv (costA (costSum acc (costOf (begunS s ev)))) rfl rfl rfl (fun _ _ => (by intro h k; revert h; (repeat' (first | exact fun h => ext_trans h k | exact fun h => Steps'.ext h k | exact fun h => StL.ext h k | exact fun h => h | refine And.imp ?_ ?_)))) (fun w1 hx hH => ?_) (fun lo7 hi7 hlo7 hhi7 => ?_)
          · unfold RunTo; go_simp; exact (HAD.out _ (HLN.out hx.1.2.2)).mono fun e w' h => h.to
          simp only [Act.put, List.setIfInBounds_toArray, List.set_cons_succ, List.set_cons_zero]
          refine fin_tail (fun w6 hx6 _ => ?_)
          have hl42 := HLN.out hx6.1.2.2
          have X6 : Ext wd w6 := hx6.1.1
          simp only [dstOf, List.getElem?_cons_succ, List.getElem?_cons_zero, Option.bind_some, Act.put, List.setIfInBounds_toArray, List.set_cons_succ, List.set_cons_zero, List.filterMap_cons, List.filterMap_nil]
          replace G4 := keep_ext X6 G4
          replace G5 := keep_ext X6 G5
          replace G2 := keep_ext X6 G2
          replace G7 := keep_ext X6 G7
          replace HO := Lib.hid (HO.out.ext X6)
          replace X := ext_trans X X6
          have hbd := costOf_bound (begunS s ev)
          have HBD : Hid (costBound (costOf (begunS s ev)) 42) := Lib.hid (by unfold costBound at *; omega)
          obtain ⟨cb, hcb⟩ : ∃ cc, costOf (begunS s ev) = cc := ⟨_, rfl⟩
          have HCB : Hid (evCost s ev = cb) := Lib.hid hcb
          rw [hcb] at HBD ⊢
          clear hcb hbd hl42 hx6 X6 HBG HPS HDN HAD HLN
          obtain ⟨w7, hw7, G57, C7⟩ := sets3 G5 (costSum acc cb)
          obtain ⟨u0, u1, u2, uf⟩ := cells3 G5
          have l5' := heap_lt G5
          replace G4 := C7.keep G4 (by simp <;> omega)
          replace G2 := C7.keep G2 (by simp; omega)
          replace G7 := C7.keep G7 (by simp; omega)
          replace HO := Lib.hid (HO.out.chg C7 fun x hm hx => by have := HLB.out x hm; simp at hx; omega)
          replace X := C7.ext X (by simp; omega)
          clear G5 C7
          obtain ⟨g4, gf4⟩ := cellsK G4
          obtain ⟨g7, gf7⟩ := cellsK G7
          have l4' := heap_lt G4
          have l7 := heap_lt G7
          go_wp2_with fail
          refine (l21Do_4 c s ev w7 HO.out HP.out).mono ?_; rintro e8 w8 ⟨rfl, C8, hO8⟩
          have hn1 : w1.heap.size ∉ c.L := fun hm => by have := HLB.out _ hm; omega
          have hn2 : w1.heap.size + 1 ∉ c.L := fun hm => by have := HLB.out _ hm; omega
          have hn3 : w.heap.size ∉ c.L := fun hm => by have := HLB.out _ hm; omega
          replace G4 := C8.keep G4 hn1
          replace G57 := C8.keep G57 hn2
          replace G2 := C8.keep G2 hn3
          replace X := C8.ext X (fun x hx => by have := HLB.out x hx; omega)
          clear C8 G7 HO hw7 u0 u1 u2 uf g4 gf4 g7 gf7 hn1 hn2 hn3
          obtain ⟨w9, hw9, G49, C9⟩ := setsS G4 c.f4 c.d6
          obtain ⟨g4, gf4⟩ := cellsK G4
          have l4'' := heap_lt G4
          replace G57 := C9.keep G57 (by simp)
          replace G2 := C9.keep G2 (by simp; omega)
          replace X := C9.ext X (by simp; omega)
          have HO9 := Lib.hid (hO8.chg C9 fun x hm hx => by have := HLB.out x hm; simp at hx; omega)
          clear C9 hO8
          go_wp2_with fail
          try rw [hw9]
          refine ⟨⟨k + 1, costSum acc cb, by go_num, by omega, X, by rw [ET.out]; exact HO9, Lib.hid ?_, Lib.hid ?_, G49, G57, G2⟩, by simp [intOf]; omega⟩
          · have h1 := HB.out
            have h2 := HBD.out
            unfold costBound costSum at *
            dsimp only
            push_cast
            omega
          · rw [CT.out, HCB.out]
            unfold sumCost
            rw [List.foldl_append, HS.out]; rfl
      · obtain rfl : k = xs.length := by omega
        obtain ⟨w9, hw9, G29, C9⟩ := sets3 G2 acc
        obtain ⟨u0, u1, u2, uf⟩ := cells3 G5
        obtain ⟨v0, v1, v2, vf⟩ := cells3 G2
        have l2 := heap_lt G2
        have X9 := C9.ext X (by simp)
        go_wp2_with fail
        try rw [hw9]
        obtain ⟨t0, t1, t2, tf⟩ := cells3 G29
        refine bodyPost_ret (v := .tuple #[costA acc, .bool true]) (by simp [results, Try.results10, go_sem, t0, t1, t2, tf]) rfl ⟨?_, X9⟩
        rw [HS.out, List.take_of_length_le (by rw [evCosts_len]; exact Nat.le_refl _)]; rfl
  · rw [if_neg h60, decide_eq_false h60]
    go_enter Try.func10, Try.ntmps10
    go_wp2_with fail
    obtain ⟨q, qf⟩ := cellsK (hg_new (w := w) (x := .cells #[.int .i64 0, .int .i64 0, .int .i64 0] 26) (b := w.heap.size) rfl)
    exact bodyPost_ret (v := .tuple #[costA cost0, .bool false]) (by simp [results, Try.results10, go_sem, q, qf, cost0]) rfl ⟨rfl, ext_alloc (ext_refl _) _⟩
end Go.Bu

set_option linter.unusedVariables false
set_option linter.unusedSimpArgs false
namespace Go.Bu
open Go Go.RowKit Go.Plan Go.Proofs

theorem Sl.takeE {w : World} {a : Option Addr} {len cap : Nat} {xs : List Event} (h : Events (Old w) w (.slice a len cap) xs) (n : Nat) (hn : n ≤ xs.length) : Events (Old w) w (.slice a n cap) (xs.take n) := by
  obtain ⟨a', c', he, hc⟩ := h
  injection he with h1 h2 h3
  subst h1; subst h3
  refine ⟨a, cap, by rw [List.length_take, Nat.min_eq_left hn], fun i x hi => hc i x ?_⟩
  rw [List.getElem?_take] at hi
  split at hi
  · exact hi
  · cases hi
theorem small_ok2 {s : Store} (h : storeOkB s = true) : Small s := by
  have := (storeOk_P h).shape4
  exact ⟨by rw [this.flash]; omega, fun b hb => by rw [this.pages b hb]; omega, by rw [this.disk]; omega⟩
theorem erow_ne {base : Nat} {w : World} {v : Value} {xs : List Event} {b : Nat} {c : Array Value} {T : TypeId} {fr : Nat × Nat} (h : ERow base w v xs) (G : w.heap[b]? = some (.cells c T fr)) (hT : T ≠ 31) : v.ownBlock ≠ some b := by
  intro e
  rcases h.2 with ⟨rfl, _⟩ | ⟨g, cap, cur, rfl, _, hh, _⟩
  · simp [Value.ownBlock] at e
  · simp [Value.ownBlock] at e
    subst e
    rw [G] at hh
    injection hh with hh
    injection hh with _ h2 _
    exact hT h2
theorem erow_keep {base : Nat} {w w' : World} {v : Value} {xs : List Event} (h : ERow base w v xs) (hb : ∀ g, v.ownBlock = some g → g < w.heap.size → w'.heap[g]? = w.heap[g]?) : ERow base w' v xs := by
  refine ⟨h.1, h.2.imp id fun ⟨g, cap, cur, h1, h2, h3, h4⟩ => ⟨g, cap, cur, h1, h2, ?_, h4⟩⟩
  subst h1
  rw [hb g (by simp [Value.ownBlock]) (heap_lt h3)]; exact h3
theorem doV_own {w : World} {f d : Value} {s : Store} {e : Event} {M : List Nat} (hok : storeOkB s = true) (h : StoreL w (.agg #[f, d]) (doV s e) M) : OwnStore w f d (playDoS s e) M := by
  unfold doV at h
  rw [if_pos hok] at h
  rcases h with ⟨_, h2, _⟩ | ⟨f', d', h1, h2, _⟩
  · have := storeOk_play hok e
    rw [h2] at this
    exact absurd this (by decide)
  · injection h1 with h1
    simp at h1
    obtain ⟨rfl, rfl⟩ := h1
    exact h2
theorem lqC (c : Cost) (w : World) : Calls Try.prog 12 #[costA c, costA c] w (Ret w (.bool true)) := by
  have := lqCost_c c c w
  rwa [show costEq c c = true by simp [costEq]] at this
theorem eventD_c {es : List Event} (h : ∀ e ∈ es, EventD e) : ∀ e ∈ es, -9223372036854775808 ≤ e.c ∧ e.c ≤ 9223372036854775807 := fun e he => by have := (h e he).c; omega

theorem sum_mono : ∀ (cs : List Cost) (c : Cost), (∀ x ∈ cs, costBound x 42) → c.writes ≤ (cs.foldl costSum c).writes ∧ c.wipes ≤ (cs.foldl costSum c).wipes ∧ c.disks ≤ (cs.foldl costSum c).disks
  | [], c, _ => ⟨Int.le_refl _, Int.le_refl _, Int.le_refl _⟩
  | x :: cs, c, h => by
    have h1 := sum_mono cs (costSum c x) fun y hy => h y (by simp [hy])
    have h2 := h x (by simp)
    unfold costBound at h2
    rw [List.foldl_cons]
    unfold costSum at h1 ⊢
    dsimp only at h1
    omega
theorem allPair_le {s : Store} (h : StoreP s) : (allPair s).2.length ≤ 42 := by
  have : ∀ (L : List Nat) (t : Store) (st : List Step), (∀ n ∈ L, n < 6) → StoreP t → (L.foldl allPairStep (t, st)).2.length ≤ st.length + 7 * L.length := by
    intro L
    induction L with
    | nil => intro t st _ _; simp
    | cons n L ih =>
      intro t st hL ht
      rw [List.foldl_cons, List.length_cons]
      have := ih (allStep t n) (st ++ flushSteps t n) (fun m hm => hL m (by simp [hm])) (ht.allStep (hL n (by simp)))
      have h7 := flush_le ht.flash n
      rw [List.length_append] at this
      show (L.foldl allPairStep (allStep t n, st ++ flushSteps t n)).2.length ≤ _
      omega
  have := this addrs6 s [] (by decide) h
  exact Nat.le_trans this (by decide)
theorem begun_le {s : Store} (h : storeOkB s = true) (e : Event) : (begunS s e).length ≤ 42 := by
  have hp := storeOk_P h
  unfold begunS
  split
  · exact allPair_le hp
  · split
    · simp
    · have := play_le hp.flash e
      rw [List.length_take]; omega
theorem evCosts_all : ∀ (es : List Event) (s : Store), storeOkB s = true → ∀ x ∈ evCosts s es, costBound x 42
  | [], _, _, x, hx => by simp [evCosts] at hx
  | e :: es, s, h, x, hx => by
    rcases List.mem_cons.1 hx with rfl | hx
    · have h1 := costOf_bound (begunS s e)
      have h2 := begun_le h e
      unfold evCost costBound at *
      omega
    · exact evCosts_all es (playDoS s e) (storeOk_play h e) x hx
theorem run_mono (es : List Event) (m : Nat) : (runCost (es.take m)).writes ≤ (runCost es).writes ∧ (runCost (es.take m)).wipes ≤ (runCost es).wipes ∧ (runCost (es.take m)).disks ≤ (runCost es).disks := by
  have e : runCost es = ((evCosts newStore es).drop m).foldl costSum (runCost (es.take m)) := by
    unfold runCost sumCost
    rw [evCosts_of_take, ← List.foldl_append, List.take_append_drop]
  rw [e]
  exact sum_mono _ _ fun x hx => evCosts_all es newStore storeOk_new x (List.mem_of_mem_drop hx)
/-- an event, played to its end -/
def wholeE (e : Event) : Event := ⟨e.kind, e.a, e.b, 60, false⟩
theorem whole_cost {s : Store} (h : storeOkB s = true) (e : Event) (h4 : e.kind ≠ 4) : evCost s (wholeE e) = costOf (playSteps s (wholeE e)) := by
  unfold evCost
  rw [begun_take s (wholeE e) h4]
  have h7 := play_le (storeOk_P h).flash (wholeE e)
  have hb : begunN (playSteps s (wholeE e)).length (wholeE e).c (wholeE e).torn = (playSteps s (wholeE e)).length := by
    unfold begunN wholeE
    dsimp only
    rw [if_neg (by simp)]
    unfold wholeE at h7
    omega
  rw [hb, if_neg (by unfold wholeE; dsimp only; omega), Int.toNat_natCast, List.take_length]
theorem evCosts_snoc : ∀ (zs : List Event) (s : Store) (e : Event), evCosts s (zs ++ [e]) = evCosts s zs ++ [evCost (evStore s zs) e]
  | [], s, e => rfl
  | z :: zs, s, e => by simp only [List.cons_append, evCosts, evCosts_snoc zs (playDoS s z) e]; rfl
theorem evStore_snoc (zs : List Event) (s : Store) (e : Event) : evStore s (zs ++ [e]) = playDoS (evStore s zs) e := by unfold evStore; rw [List.foldl_append]; rfl
theorem run_snoc (zs : List Event) (e : Event) : sumCost (evCosts newStore (zs ++ [e])) = costSum (sumCost (evCosts newStore zs)) (evCost (evStore newStore zs) e) := by
  rw [evCosts_snoc]; unfold sumCost; rw [List.foldl_append]; rfl

set_option maxRecDepth 20000 in
set_option maxHeartbeats 2000000 in
theorem lawCostRun (v : Value) (xs : List Nat) (u : Value) (ys : List Nat) (w : World) (h : Bytes (Old w) w v xs) (hs : ∀ x ∈ xs, x < 256) (hcap : ∀ a n c, v = .slice a n c → n ≤ c) (h2 : Bytes (Old w) w u ys) (_ : ∀ x ∈ ys, x < 256) (_ : ∀ a n c, u = .slice a n c → n ≤ c) :
    Calls Try.prog 7 #[v, u] w (Ret w (.bool true)) := by
  obtain ⟨a, cap, rfl⟩ := h.form
  obtain ⟨a2, cap2, rfl⟩ := h2.form
  by_cases hl : xs.length ≤ 1048576
  · by_cases hl2 : ys.length ≤ 1048576
    · go_enter Try.func7, Try.ntmps7
      go_wp2_with fail
      refine (drawCostRun_c _ xs _ h hs hl hcap).mono ?_; rintro e1 w1 ⟨v1, es, rfl, X1, hE, hcapE, hD, h61⟩
      obtain ⟨oa, ocap, rfl⟩ := hE.form
      have hoc := hcapE _ _ _ rfl
      have hS := specCostRun_c _ es w1 hE (eventD_c hD) (by omega)
      have hI := fun (w' : World) (hx : Ext w1 w') => implCostRun_c _ es w' (Sl.same (plain_kept _) hE (same_old hx) (old_ext hx)) (eventD_c hD) (by omega)
      have HD := Lib.hid hD
      have HE := Lib.hid hE
      clear hE hD hcapE
      by_cases h60 : es.length ≤ 60
      · rw [if_pos h60, decide_eq_true h60] at hS
        simp only [if_pos h60, decide_eq_true h60] at hI
        go_wp2_with fail
        refine hS.mono ?_; rintro e2 w2 ⟨rfl, hx2⟩
        go_wp2_with fail
        refine (hI _ (ext_alloc hx2 _)).mono ?_; rintro e3 w3 ⟨rfl, hx3⟩
        have X13 : Ext w1 w3 := ext_trans (ext_alloc hx2 _) hx3
        have G6 := keep_ext hx3 (hg_new (w := w2) (x := .cells #[.int .i64 (runCost es).writes, .int .i64 (runCost es).wipes, .int .i64 (runCost es).disks] 26) (b := w2.heap.size) rfl)
        obtain ⟨g6, gf6⟩ := cellsK G6
        have l6 := heap_lt G6
        clear hS hI hx2 hx3
        go_wp2_with fail
        refine (lqC (runCost es) _).mono ?_; rintro e4 w4 ⟨rfl, hx4⟩
        have X14 : Ext w1 w4 := ext_trans (ext_alloc X13 _) hx4
        have X34 : Ext w3 w4 := ext_trans (ext_alloc (ext_refl w3) _) hx4
        have G8 := keep_ext hx4 (hg_new (w := w3) (x := .cells #[.int .i64 (runCost es).writes, .int .i64 (runCost es).wipes, .int .i64 (runCost es).disks] 26) (b := w3.heap.size) rfl)
        replace G6 := keep_ext X34 G6
        clear g6 gf6 l6 hx4 X34 X13
        obtain ⟨g6, gf6⟩ := cellsK G6
        obtain ⟨g8, gf8⟩ := cellsK G8
        have l6 := heap_lt G6
        have l8 := heap_lt G8
        obtain ⟨m, hm, hmz⟩ : ∃ m : Nat, ((ys.length : Int) % ((es.length : Int) + 1)) = m ∧ m ≤ es.length := ⟨ys.length % (es.length + 1), by push_cast; rfl, by have := Nat.mod_lt ys.length (show 0 < es.length + 1 by omega); omega⟩
        have hc1 : ∀ w' : World, (Instr.slice 23 (.slice oa es.length ocap) none (some (.int .i64 m)) none).run Try.prog w' = .ok (.slice oa m ocap) w' := fun w' => by
          rw [run_slice_h w' 23 oa es.length ocap (by kernel_rfl) .i64 m (by omega) (by omega)]
          rw [show (sizeOf (Try.prog.elem 23)).run Try.prog w' = .ok 5 w' by kernel_rfl]
          simp only [Result.andThen, sliced, Int.toNat_natCast, Nat.sub_zero]
          first | done | (split <;> simp [Addr.add])
        have HM := Lib.hid (run_mono es m)
        have hL := implCostRun_c (.slice oa m ocap) (es.take m) w4 (Sl.takeE (Sl.same (plain_kept _) HE.out (same_old X14) (old_ext X14)) m hmz) (fun e he => eventD_c HD.out e (List.mem_of_mem_take he)) (by rw [List.length_take]; omega)
        rw [if_pos (by rw [List.length_take]; omega), decide_eq_true (show (es.take m).length ≤ 60 by rw [List.length_take]; omega)] at hL
        generalize runCost (es.take m) = DD at *
        generalize runCost es = CC at *
        obtain ⟨d1, d2, d3⟩ := DD
        obtain ⟨c1, c2, c3⟩ := CC
        obtain ⟨le1, le2, le3⟩ := HM.out
        dsimp only at le1 le2 le3 G6 G8
        clear HM
        go_wp2_with fail
        refine hL.mono ?_; rintro e5 w5 ⟨rfl, hx5⟩
        have X15 := ext_trans X14 hx5
        replace G8 := keep_ext hx5 G8
        clear hL hc1 hm g6 gf6 l6 g8 gf8 l8 G6 hx5 X14
        obtain ⟨g8, gf8⟩ := cellsK G8
        have l8 := heap_lt G8
        go_wp2_with fail
        refine (implStoreNew_c _).mono ?_; rintro e6 w6 ⟨f0, d0, L0, rfl, hx6, hO0, hn0, hb0⟩
        obtain ⟨b1, m1, k1, b2, m2, k2, rfl, rfl⟩ := hO0.forms
        have GR : w6.heap[w5.heap.size + 1]? = some (.cells #[] 31 (0, 0)) := keep_ext hx6 (hg_new (by simp))
        have HR0 := Lib.hid (ERow.empty GR (Nat.le_refl _))
        have X6 : Ext w w6 := ext_trans X1 (ext_trans X15 (ext_trans (ext_alloc (ext_alloc (ext_refl w5) _) _) hx6))
        have s6 := hx6.size
        simp at s6
        have hz1 := X1.size
        have hz5 := X15.size
        have X16 : Ext w1 w6 := ext_trans X15 (ext_trans (ext_alloc (ext_alloc (ext_refl w5) _) _) hx6)
        have HB0 : Hid (∀ b ∈ L0, w5.heap.size + 1 < b ∧ b < w6.heap.size) := Lib.hid fun b hb => ⟨by have := hb0 b hb; simp at this; omega, hO0.lt b hb⟩
        have HO0 := Lib.hid hO0
        clear hO0 hn0 hb0 hx6 g8 gf8 l8 G8 X15 GR
        go_wp2_with fail
        go_loopw [12, 15] (fun ov y wr => ∃ (k : Nat) (zs : List Event) (acc : Cost) (f d : Value) (M : List Nat), y = .int .i64 k ∧ k ≤ es.length ∧ zs.length ≤ k ∧ Ext w wr ∧ Ext w1 wr ∧ Hid (ERow (w5.heap.size + 1) wr ov zs) ∧ Hid (∀ e ∈ zs, e.c = 60) ∧ Hid (OwnStore wr f d (evStore newStore zs) M) ∧ Hid (∀ b ∈ M, ov.ownBlock ≠ some b ∧ b ≠ w6.heap.size ∧ b ≠ w6.heap.size + 1) ∧
          Hid (acc = sumCost (evCosts newStore zs)) ∧ Hid (costBound acc (42 * k)) ∧ wr.heap[w6.heap.size]? = some (.cells #[f, d] 41 (0, 0)) ∧ wr.heap[w6.heap.size + 1]? = some (.cells (costC acc).toArray 26 (0, 0)) ∧ w6.heap.size + 1 < wr.heap.size) (fun _ y _ => es.length - (intOf y).toNat)
        case atStart =>
          refine ⟨0, [], cost0, _, _, L0, rfl, by omega, by simp, ext_alloc (ext_alloc X6 _) _, ext_alloc (ext_alloc X16 _) _, Lib.hid ((HR0.out.ext (ext_alloc (ext_refl _) _)).ext (ext_alloc (ext_refl _) _)), Lib.hid (by simp), Lib.hid (HO0.out.ext (ext_alloc (ext_alloc (ext_refl _) _) _)), Lib.hid fun b hb => ?_, Lib.hid rfl, Lib.hid (by unfold costBound cost0; decide), hg_alloc (hg_new rfl), hg_new (by simp), by simp⟩
          have := HB0.out b hb
          refine ⟨?_, by omega, by omega⟩
          simp only [Value.ownBlock]
          intro hh
          injection hh with hh
          omega
        case round =>
          clear HR0 HO0 HB0 X6 X16
          obtain ⟨k, zs, acc, f, d, M, rfl, hk, hzk, X, XE, HR, HZ, HO, HM, HA, HB, G13, G14, lsz⟩ := hrel
          obtain ⟨za, zcap, rfl⟩ := HR.out.form
          by_cases hlt : k < es.length
          · obtain ⟨eb, eo, rfl, hbe, q0, q1, q2, q3, q4⟩ := (Sl.same (plain_kept _) HE.out (same_old XE) (old_ext XE) : Events (Old wr) wr _ _).at5 hlt
            have hok := evStore_ok zs newStore storeOk_new
            have hev := HD.out _ (List.getElem_mem hlt)
            obtain ⟨ev, hevv⟩ : ∃ e, es[k] = e := ⟨_, rfl⟩
            rw [hevv] at q0 q1 q2 q3 q4 hev
            obtain ⟨s, hsv⟩ : ∃ s, evStore newStore zs = s := ⟨_, rfl⟩
            have HSV := Lib.hid hsv
            rw [hsv] at HO hok
            have HOK := Lib.hid hok
            clear hevv hsv hok
            by_cases h4 : ev.kind = 4
            · obtain ⟨kd, ea, eb2, ec, et⟩ := ev
              obtain rfl : kd = 4 := h4
              go_wp2_with fail
              refine ⟨⟨k + 1, zs, acc, f, d, M, by go_num, by omega, by omega, ext_alloc X _, ext_alloc XE _, Lib.hid (HR.out.ext (ext_alloc (ext_refl _) _)), HZ, Lib.hid (by rw [HSV.out]; exact HO.out.ext (ext_alloc (ext_refl _) _)), HM, HA, Lib.hid ?_, hg_alloc G13, hg_alloc G14, by simp; omega⟩, by simp [intOf]; omega⟩
              have := HB.out
              unfold costBound at *
              push_cast
              omega
            · have h4f : (ev.kind == 4) = false := by simpa using h4
              obtain ⟨b1, m1, k1, b2, m2, k2, rfl, rfl⟩ := HO.out.forms
              have hRa := fun (o1 o2 : Obj) => Lib.hid ((HR.out.ext (ext_alloc (ext_refl wr) o1)).ext (ext_alloc (ext_refl _) o2))
              have hwr : w5.heap.size + 1 ≤ wr.heap.size := by omega
              go_wp2_with (refine wpList_appEvent rfl _ _ rfl rfl (hRa _ _).out (y := wholeE ev) rfl (hg_new (by simp)) (by omega) (by simp; omega) (fun v' w' hS' hg => ?_); obtain ⟨za2, zcap2, rfl⟩ := ERow.form hS')
              have hrow := (hRa (.cells #[.int .i64 ev.kind, .int .i64 ev.a, .int .i64 ev.b, .int .i64 60, .bool false] 31) (.cells #[.int .i64 ev.kind, .int .i64 ev.a, .int .i64 ev.b, .int .i64 60, .bool false] 31)).out
              have hg2 : ((wr.alloc (.cells #[.int .i64 ev.kind, .int .i64 ev.a, .int .i64 ev.b, .int .i64 60, .bool false] 31)).alloc (.cells #[.int .i64 ev.kind, .int .i64 ev.a, .int .i64 ev.b, .int .i64 60, .bool false] 31)).grownBy w' (Value.slice za zs.length zcap).ownBlock := hg
              have XA := ext_grown (ext_alloc (ext_alloc X _) _) (ERow.weak hrow (by omega)) hg2
              have XB := ext_grown (ext_alloc (ext_alloc XE _) _) (ERow.weak hrow (by omega)) hg2
              replace G13 := keep_grown (hg_alloc (hg_alloc G13)) (by decide) hrow hg2
              replace G14 := keep_grown (hg_alloc (hg_alloc G14)) (by decide) hrow hg2
              have G16 : w'.heap[wr.heap.size]? = some (.cells #[.int .i64 ev.kind, .int .i64 ev.a, .int .i64 ev.b, .int .i64 60, .bool false] 31 (0, 0)) := by
                rw [hg2.block _ (by simp; omega) (fun e => by have := (HR.out.lt _ e.symm).2; omega)]; exact hg_alloc (hg_new rfl)
              have hO2 := HO.out.ext (ext_alloc (ext_alloc (ext_refl wr) (.cells #[.int .i64 ev.kind, .int .i64 ev.a, .int .i64 ev.b, .int .i64 60, .bool false] 31)) (.cells #[.int .i64 ev.kind, .int .i64 ev.a, .int .i64 ev.b, .int .i64 60, .bool false] 31))
              have HO3 := Lib.hid (hO2.keep (w' := w') fun b hb => hg2.block b (hO2.lt b hb) fun e => (HM.out b hb).1 e.symm)
              have HR3 : Hid (ERow (w5.heap.size + 1) w' (.slice za2 (zs ++ [wholeE ev]).length zcap2) (zs ++ [wholeE ev])) := Lib.hid hS'
              have hsz := hg2.size
              simp at hsz
              have HMM := Lib.hid fun b hb => (HM.out b hb).2
              clear hg hg2 hrow hRa hO2 HO HR HM hS' X XE q0 q1 q2 q3 q4
              have hsm := small_ok2 HOK.out
              have HPS : Hid (∀ wz, Ext w' wz → Calls Try.prog 20 #[.agg #[.slice b1 m1 k1, .slice b2 m2 k2], eventA (wholeE ev)] wz (StLRet wz (playSteps s (wholeE ev)))) := Lib.hid fun wz hx => (implPlaySteps_c _ _ s (wholeE ev) wz ⟨(HO3.out.ext hx).flash, (HO3.out.ext hx).disk⟩ HOK.out).mono fun _ _ h => h.toR
              have HPD : Hid (∀ wz, OwnStore wz (.slice b1 m1 k1) (.slice b2 m2 k2) s M → Calls Try.prog 21 #[.agg #[.slice b1 m1 k1, .slice b2 m2 k2], eventA (wholeE ev)] wz (StoreΦ wz (doV s (wholeE ev)))) := Lib.hid fun wz ho => implPlayDo_c _ _ s (wholeE ev) wz ⟨ho.flash, ho.disk⟩ hsm (by unfold wholeE; dsimp only; omega)
              have HAD : Hid (∀ wz, (playSteps s (wholeE ev)).length ≤ 7 → Calls Try.prog 18 #[costA acc, costA (costOf (playSteps s (wholeE ev)))] wz (Ret wz (costA (costSum acc (costOf (playSteps s (wholeE ev))))))) := Lib.hid fun wz hl => by
                have := implCostAdd_c acc (costOf (playSteps s (wholeE ev))) wz
                rwa [show costAdd acc (costOf (playSteps s (wholeE ev))) = costSum acc (costOf (playSteps s (wholeE ev))) by unfold costAdd; rw [costOk_of HB.out (by omega), costOf_ok (by omega)]; rfl] at this
              refine wp_region_ext [3, 4, 5] [0, 1, 2, 3, 4, 5] [] [6] (by kernel_rfl) (by kernel_rfl) ?late ?_
              case late => exact fun f hf => absurd hf List.not_mem_nil
              iterate 3
                refine Rob.y (v := ?_) rfl rfl (fun w1 hx hH => ?_) ?_; rotate_left
                · (have hE : Ext w' w1 := (by first | exact hx | exact hx.1); obtain ⟨z3, zf3⟩ := cellsK (keep_ext hE G13); obtain ⟨u0, u1, u2, uf⟩ := cells3 (keep_ext hE G14); obtain ⟨z7, zf7⟩ := cellsK (keep_ext hE G16)); go_simp; first | done | rfl
                simp only [Act.put, List.setIfInBounds_toArray, List.set_cons_succ, List.set_cons_zero]
              refine Rob.c (fun _ _ v w' => StL w' v (playSteps s (wholeE ev)) ∧ (playSteps s (wholeE ev)).length ≤ 7) rfl rfl rfl (fun _ _ => (by intro h k; revert h; (repeat' (first | exact fun h => ext_trans h k | exact fun h => StL.ext h k | exact fun h => h | refine And.imp ?_ ?_)))) (fun _ _ _ _ _ => fun hh hx => ⟨hh.1.ext hx, hh.2⟩) (fun w1 hx hH => ?_) (fun lo3 hi3 v3 hlo3 hhi3 hv3 => ?_)
              · unfold RunTo; go_simp; exact (HPS.out _ hx).mono fun e w' h => h.to
              simp only [Act.put, List.setIfInBounds_toArray, List.set_cons_succ, List.set_cons_zero]
              refine Rob.cv (costA (costOf (playSteps s (wholeE ev)))) rfl rfl rfl (fun _ _ => (by intro h k; revert h; (repeat' (first | exact fun h => ext_trans h k | exact fun h => StL.ext h k | exact fun h => h | refine And.imp ?_ ?_)))) (fun w1 hx hH => ?_) (fun lo4 hi4 hlo4 hhi4 => ?_)
              · unfold RunTo; go_simp; exact (implCostOf_c _ _ _ hx.2.1.1 (by have := hx.2.2; omega)).mono fun e w' h => h.to
              simp only [Act.put, List.setIfInBounds_toArray, List.set_cons_succ, List.set_cons_zero]
              refine Rob.cv (costA (costSum acc (costOf (playSteps s (wholeE ev))))) rfl rfl rfl (fun _ _ => (by intro h k; revert h; (repeat' (first | exact fun h => ext_trans h k | exact fun h => StL.ext h k | exact fun h => h | refine And.imp ?_ ?_)))) (fun w1 hx hH => ?_) (fun lo5 hi5 hlo5 hhi5 => ?_)
              · unfold RunTo; go_simp; exact (HAD.out _ hx.2.2).mono fun e w' h => h.to
              simp only [Act.put, List.setIfInBounds_toArray, List.set_cons_succ, List.set_cons_zero]
              refine fin_tail (fun w7 hx7 _ => ?_)
              have hl7 := hx7.2.2
              replace hx7 := hx7.1
              simp only [dstOf, List.getElem?_cons_succ, List.getElem?_cons_zero, Option.bind_some, Act.put, List.setIfInBounds_toArray, List.set_cons_succ, List.set_cons_zero, List.filterMap_cons, List.filterMap_nil]
              have hW := whole_cost HOK.out ev h4
              obtain ⟨cb, hcb⟩ : ∃ cc, costOf (playSteps s (wholeE ev)) = cc := ⟨_, rfl⟩
              have HBD : Hid (costBound cb 42) := Lib.hid (by have := costOf_bound (playSteps s (wholeE ev)); rw [hcb] at this; unfold costBound at *; omega)
              rw [hcb] at hW ⊢
              have HW := Lib.hid hW
              replace G13 := keep_ext hx7 G13
              replace G14 := keep_ext hx7 G14
              replace G16 := keep_ext hx7 G16
              replace HO3 := Lib.hid (HO3.out.ext hx7)
              replace HR3 := Lib.hid (HR3.out.ext hx7)
              replace XA := ext_trans XA hx7
              replace XB := ext_trans XB hx7
              have hsz7 := hx7.size
              clear hx7 hl7 hW hcb HPS HAD hsm h4
              obtain ⟨w8, hw8, G148, C8⟩ := sets3 G14 (costSum acc cb)
              have hrn := erow_ne HR3.out G14 (by decide)
              have hrn2 := erow_ne HR3.out G13 (by decide)
              obtain ⟨u0, u1, u2, uf⟩ := cells3 G14
              have l14 := heap_lt G14
              replace HR3 := Lib.hid (erow_keep HR3.out fun g hg hl => C8.block g hl (by simp; rintro rfl; exact hrn hg))
              replace HO3 := Lib.hid (HO3.out.chg C8 fun b hb hx => (HMM.out b hb).2 (by simpa using hx))
              replace G13 := C8.keep G13 (by simp)
              replace G16 := C8.keep G16 (by simp; omega)
              replace XA := C8.ext XA (by simp; omega)
              replace XB := C8.ext XB (by simp; omega)
              have hsz8 := C8.size
              clear C8 G14
              obtain ⟨g13, gf13⟩ := cellsK G13
              obtain ⟨g16, gf16⟩ := cellsK G16
              have l13 := heap_lt G13
              have l16 := heap_lt G16
              go_wp2_with fail
              refine (HPD.out _ HO3.out).mono ?_; rintro e9 w9 ⟨v9, M9, rfl, hx9, hL9, hM9⟩
              obtain ⟨b5, m5, k5, b6, m6, k6, rfl⟩ := hL9.forms
              have hO9 : OwnStore w9 (.slice b5 m5 k5) (.slice b6 m6 k6) (playDoS s (wholeE ev)) M9 := doV_own HOK.out hL9
              replace G13 := keep_ext hx9 G13
              replace G148 := keep_ext hx9 G148
              have hlt9 := HR3.out.lt
              have HLT9 := Lib.hid hlt9
              replace HR3 := Lib.hid (HR3.out.ext hx9)
              replace XA := ext_trans XA hx9
              replace XB := ext_trans XB hx9
              have hsz9 := hx9.size
              clear hx9 hL9 HO3 HPD g13 gf13 g16 gf16 hw8 u0 u1 u2 uf G16 hlt9
              obtain ⟨w10, hw10, G1310, C10⟩ := setsS G13 (.slice b5 m5 k5) (.slice b6 m6 k6)
              obtain ⟨g13, gf13⟩ := cellsK G13
              have l13 := heap_lt G13
              have HR10 := Lib.hid (erow_keep HR3.out fun g hg hl => C10.block g hl (by simp; rintro rfl; exact hrn2 hg))
              have HO10 := Lib.hid (hO9.chg C10 fun b hb hx => by have := hM9 b hb; simp at hx; omega)
              replace G148 := C10.keep G148 (by simp)
              replace XA := C10.ext XA (by simp; omega)
              replace XB := C10.ext XB (by simp; omega)
              have hsz10 := C10.size
              clear C10 hO9 hrn hrn2
              rw [show (zs ++ [wholeE ev]).length = zs.length + 1 by simp] at HR10 HLT9
              go_wp2_with fail
              try rw [hw10]
              refine ⟨⟨k + 1, zs ++ [wholeE ev], costSum acc cb, _, _, M9, by go_num, by omega, by simp; omega, XA, XB, HR10, Lib.hid fun x hx => ?_, Lib.hid ?_, Lib.hid fun b hb => ⟨fun e => ?_, ?_, ?_⟩, Lib.hid ?_, Lib.hid ?_, G1310, G148, by omega⟩, by simp [intOf]; omega⟩
              · rcases List.mem_append.1 hx with hx | hx
                · exact HZ.out x hx
                · obtain rfl := List.mem_singleton.1 hx; rfl
              · rw [evStore_snoc, HSV.out]; exact HO10.out
              · have := hM9 b hb
                have := (HLT9.out b e).2
                omega
              · have := hM9 b hb; omega
              · have := hM9 b hb; omega
              · rw [run_snoc, HSV.out, HW.out, ← HA.out]
              · have h1 := HB.out
                have h2 := HBD.out
                unfold costBound costSum at *
                dsimp only
                push_cast
                omega
          · obtain rfl : k = es.length := by omega
            have hW := implCostRun_c _ zs wr HR.out.events (fun e he => by rw [HZ.out e he]; omega) (by omega)
            rw [if_pos (by omega), decide_eq_true (show zs.length ≤ 60 by omega), show runCost zs = acc from HA.out.symm] at hW
            obtain ⟨u0, u1, u2, uf⟩ := cells3 G14
            go_wp2_with fail
            refine hW.mono ?_; rintro e7 w7 ⟨rfl, hx7⟩
            have XA := ext_trans X hx7
            replace G14 := keep_ext hx7 G14
            have l14 := heap_lt G14
            clear hW u0 u1 u2 uf hx7
            obtain ⟨u0, u1, u2, uf⟩ := cells3 G14
            go_wp2_with fail
            refine (lqC acc _).mono ?_; rintro e8 w8 ⟨rfl, hx8⟩
            go_wp2_with fail
            go_ret
            exact ⟨rfl, ext_trans (ext_alloc XA _) hx8⟩
      · rw [if_neg h60, decide_eq_false h60] at hS
        simp only [if_neg h60, decide_eq_false h60] at hI
        go_wp2_with fail
        refine hS.mono ?_; rintro e2 w2 ⟨rfl, hx2⟩
        go_wp2_with fail
        refine (hI _ (ext_alloc hx2 _)).mono ?_; rintro e3 w3 ⟨rfl, hx3⟩
        have X13 : Ext w1 w3 := ext_trans (ext_alloc hx2 _) hx3
        have G6 := keep_ext hx3 (hg_new (w := w2) (x := .cells #[.int .i64 cost0.writes, .int .i64 cost0.wipes, .int .i64 cost0.disks] 26) (b := w2.heap.size) rfl)
        obtain ⟨g6, gf6⟩ := cellsK G6
        have l6 := heap_lt G6
        clear hS hI hx2 hx3
        go_wp2_with fail
        refine (lqC cost0 _).mono ?_; rintro e4 w4 ⟨rfl, hx4⟩
        have X14 : Ext w1 w4 := ext_trans (ext_alloc X13 _) hx4
        have X34 : Ext w3 w4 := ext_trans (ext_alloc (ext_refl w3) _) hx4
        have G8 := keep_ext hx4 (hg_new (w := w3) (x := .cells #[.int .i64 cost0.writes, .int .i64 cost0.wipes, .int .i64 cost0.disks] 26) (b := w3.heap.size) rfl)
        replace G6 := keep_ext X34 G6
        clear g6 gf6 l6 hx4 X34 X13
        obtain ⟨g6, gf6⟩ := cellsK G6
        obtain ⟨g8, gf8⟩ := cellsK G8
        have l6 := heap_lt G6
        have l8 := heap_lt G8
        go_wp2_with fail
        refine (lqC cost0 _).mono ?_; rintro e5 w5 ⟨rfl, hx5⟩
        go_wp2_with fail
        go_ret
        exact ⟨rfl, ext_trans X1 (ext_trans X14 hx5)⟩
    · go_enter Try.func7, Try.ntmps7
      go_wp2_with fail
      go_ret
      exact ⟨rfl, ext_refl _⟩
  · go_enter Try.func7, Try.ntmps7
    go_wp2_with fail
    all_goals
      go_ret
      exact ⟨rfl, ext_refl _⟩
end Go.Bu

set_option linter.unusedVariables false
set_option linter.unusedSimpArgs false
namespace Go.Bu
open Go

/-- the blocks, with room for a record -/
def roomF (f : List Block) : List Block := if (openB f).2 then f else wipeF f (old f) false
def dirtyF (f : List Block) (a : Int) : Bool := decide (0 < (last f a).seq) && (last f a).kind == 1
/-- how many addresses are dirty -/
def dirtyN (f : List Block) : Nat := addrs6.countP fun (n : Nat) => dirtyF f ((n : Int) + 1)
/-- how many are told and gone when room is made -/
def goneN (f : List Block) : Nat := addrs6.countP fun (n : Nat) => dirtyF f ((n : Int) + 1) && !dirtyF (roomF f) ((n : Int) + 1)
def cleanF (f : List Block) : Int := (f.map fun b => cleanN b.pages).sum

theorem countP_split {α : Type} (p q : α → Bool) : ∀ (L : List α), (∀ n ∈ L, q n = true → p n = true) → L.countP p = L.countP (fun n => p n && !q n) + L.countP q
  | [], _ => rfl
  | x :: L, h => by
    have ih := countP_split p q L fun n hn => h n (by simp [hn])
    have hx := h x (by simp)
    simp only [List.countP_cons]
    cases hp : p x <;> cases hq : q x <;> simp [hp, hq] at hx ⊢ <;> omega
theorem len_le_of_nodup {α : Type} [DecidableEq α] : ∀ (xs ys : List α), xs.Nodup → (∀ x ∈ xs, x ∈ ys) → xs.length ≤ ys.length
  | [], _, _, _ => by simp
  | x :: xs, ys, hn, h => by
    have hx := h x (by simp)
    rw [List.nodup_cons] at hn
    have := len_le_of_nodup xs (ys.erase x) hn.2 fun y hy => (List.mem_erase_of_ne (fun e => hn.1 (by rw [← e]; exact hy))).2 (h y (by simp [hy]))
    rw [List.length_erase_of_mem hx] at this
    have : 0 < ys.length := List.length_pos_of_mem hx
    simp only [List.length_cons]; omega
theorem maxSeq_le {f : List Block} (h : FlashOk f) {m : Int} (h0 : 0 ≤ m) (hm : ∀ n ∈ seqs f, n ≤ m) : maxSeq f ≤ m := by
  have hb : ∀ b ∈ f, most b.pages ≤ m := fun b hb => by
    have := most_spec (h.pg hb)
    by_cases h1 : 0 < most b.pages
    · obtain ⟨p, hp, q1, q2⟩ := mem_pseqs.1 (this.2.1 h1)
      rw [← q2]
      exact hm _ (mem_seqs.2 ⟨b, hb, p, hp, q1, rfl⟩)
    · omega
  have key : ∀ (bs : List Block) (n : Int), n ≤ m → (∀ b ∈ bs, most b.pages ≤ m) → bs.foldl nextStep n ≤ m := by
    intro bs
    induction bs with
    | nil => exact fun n h _ => h
    | cons b bs ih =>
      intro n hn hb
      rw [List.foldl_cons]
      refine ih _ ?_ fun c hc => hb c (by simp [hc])
      have := hb b (by simp)
      unfold nextStep; split <;> omega
  exact key f 0 h0 hb
theorem seq_next {f : List Block} (h : FlashOk f) : ∀ n ∈ seqs f, n < next f := by
  intro n hn
  obtain ⟨b, hb, p, hp, h1, rfl⟩ := mem_seqs.1 hn
  have := maxSeq_ge h ⟨b, hb, p, hp, h1, rfl⟩
  unfold next; omega

/-- room was made -/
structure Roomy (f : List Block) : Prop where
  ord : Ord (roomF f)
  opn : Openable (roomF f) (room f).2.1.toNat
  pos : 0 ≤ (room f).2.1
  sub : ∀ n ∈ seqs (roomF f), n ∈ seqs f
theorem old4 {f : List Block} (h : Ord f) : old f < f.length := old_lt (by have := h.ok.len; omega)
theorem shut {f : List Block} (h : Ord f) (ho : (openB f).2 = false) : ∀ b ∈ f, partB b.pages = false := fun b hb => part_no (openB_no h.ok ho b hb)
theorem room_worn {f : List Block} (ho : (openB f).2 = false) (hc : (room f).2.2 = true) : (blockAt f (old f)).worn < 200 := by
  unfold room at hc
  rw [ho] at hc
  simpa using hc
theorem roomy {f : List Block} (h : Ord f) (hc : (room f).2.2 = true) : Roomy f := by
  by_cases ho : (openB f).2 = true
  · have e : roomF f = f := by unfold roomF; rw [if_pos ho]
    have e2 : (room f).2.1 = (openB f).1 := by unfold room; rw [if_pos ho]
    exact ⟨by rw [e]; exact h, by rw [e, e2]; exact openB_yes h ho, by rw [e2]; exact (openB_lt ho).1, by rw [e]; exact fun _ h => h⟩
  · have ho' : (openB f).2 = false := by simpa using ho
    have e : roomF f = wipeF f (old f) false := by unfold roomF; rw [if_neg ho]
    have e2 : (room f).2.1 = (old f : Int) := by unfold room; rw [if_neg ho]
    have hp := shut h ho'
    have hol := old4 h
    obtain ⟨b', eb, h1, h2, h3, h4⟩ := wipe_get (f := f) hol (room_worn ho' hc) false
    refine ⟨by rw [e]; exact h.wipe hol hp false, ?_, by rw [e2]; omega, fun n hn => ?_⟩
    · rw [e, e2, eb, Int.toNat_natCast]
      refine ⟨⟨b', by rw [List.getElem?_set_self hol], h4 rfl⟩, fun k c hk hkc => ?_⟩
      rw [List.getElem?_set_ne (Ne.symm hk)] at hkc
      exact hp c (List.mem_of_getElem? hkc)
    · rw [e, eb] at hn
      obtain ⟨c, hcm, hcn⟩ := mem_seqs.1 hn
      rcases mem_set hcm with hcm | rfl
      · exact mem_seqs.2 ⟨c, hcm, hcn⟩
      · obtain ⟨p, hp, q1, q2⟩ := hcn
        exact absurd ⟨p, hp, q1, rfl⟩ (h2 p.r)
theorem room_last {f : List Block} (h : Ord f) (hc : (room f).2.2 = true) (a : Int) : last (roomF f) a = last f a ∨ ((openB f).2 = false ∧ W (blockAt f (old f)) (last f a) ∧ last (roomF f) a = rec0) := by
  by_cases ho : (openB f).2 = true
  · exact .inl (by unfold roomF; rw [if_pos ho])
  · have ho' : (openB f).2 = false := by simpa using ho
    have e : roomF f = wipeF f (old f) false := by unfold roomF; rw [if_neg ho]
    rw [e]
    rcases last_wipe h (shut h ho') (room_worn ho' hc) false a with ⟨h1, h2⟩ | ⟨_, h2⟩
    · exact .inr ⟨ho', h1, h2⟩
    · exact .inl h2
theorem room_in {f : List Block} (h : Ord f) (ho : (openB f).2 = false) (hc : (room f).2.2 = true) (a : Int) (hW : W (blockAt f (old f)) (last f a)) : last (roomF f) a = rec0 := by
  have e : roomF f = wipeF f (old f) false := by unfold roomF; rw [if_neg (by simp [ho])]
  rw [e]
  rcases last_wipe h (shut h ho) (room_worn ho hc) false a with ⟨_, h2⟩ | ⟨h1, _⟩
  · exact h2
  · exact absurd hW h1
theorem dirty_room {f : List Block} (h : Ord f) (hc : (room f).2.2 = true) (a : Int) (hd : dirtyF (roomF f) a = true) : dirtyF f a = true := by
  rcases room_last h hc a with e | ⟨_, _, e⟩
  · unfold dirtyF at hd ⊢; rwa [e] at hd
  · unfold dirtyF at hd; rw [e] at hd; cases hd
theorem dirty_split {f : List Block} (h : Ord f) (hc : (room f).2.2 = true) : dirtyN f = goneN f + dirtyN (roomF f) :=
  countP_split _ _ _ fun n _ hd => dirty_room h hc _ hd

/-- what is told when a block is wiped was dirty, and is gone -/
theorem told_gone {f : List Block} (h : Ord f) (ho : (openB f).2 = false) (hc : (room f).2.2 = true) : (roomSteps f (blockAt f (old f)).pages).length ≤ goneN f := by
  have hol := old4 h
  have hmem := blockAt_mem hol
  have hnd : (pseqs (blockAt f (old f)).pages).Nodup := by
    have := h.ok.nd
    rw [seqs_at f (old f) hol, ← blockAt_get hol] at this
    exact (List.nodup_append.1 (List.nodup_append.1 this).2.1).1
  have hok : ∀ p ∈ (blockAt f (old f)).pages, p.state = 1 → recOkB p.r = true := fun p hp h1 => liveP_ok h.ok hmem hp h1
  have hin : ∀ p ∈ (blockAt f (old f)).pages, liveP f p = true ∧ p.r.kind = 1 → p.state = 1 ∧ last f p.r.addr = p.r := by
    intro p _ hl
    have := hl.1
    simp only [liveP, Bool.and_eq_true, beq_iff_eq, recEq_iff] at this
    exact this
  have key : ∀ ps : List Page, (∀ p ∈ ps, p ∈ (blockAt f (old f)).pages) → (pseqs ps).Nodup →
      ((roomSteps f ps).map fun x => (x.addr - 1).toNat).Nodup ∧ ∀ n : Nat, n ∈ (roomSteps f ps).map (fun x => (x.addr - 1).toNat) → ∃ p ∈ ps, (p.state = 1 ∧ last f p.r.addr = p.r ∧ p.r.kind = 1) ∧ p.r.addr = (n : Int) + 1 ∧ n < 6 := by
    intro ps
    induction ps with
    | nil => exact fun _ _ => ⟨List.nodup_nil, fun n hn => by cases hn⟩
    | cons p ps ih =>
      intro hsub hn
      rw [pseqs_cons] at hn
      obtain ⟨i1, i2⟩ := ih (fun q hq => hsub q (by simp [hq])) (List.nodup_append.1 hn).2.1
      by_cases hl : liveP f p = true ∧ p.r.kind = 1
      · have hp := hsub p (by simp)
        obtain ⟨q1, q2⟩ := hin p hp hl
        have hr := recOkB_iff.1 (hok p hp q1)
        have e : roomSteps f (p :: ps) = diskStepOf p :: roomSteps f ps := by
          unfold roomSteps; rw [List.flatMap_cons]; unfold roomOne; rw [if_pos hl]; rfl
        rw [e, List.map_cons]
        refine ⟨List.nodup_cons.2 ⟨fun hm => ?_, i1⟩, fun n hn' => ?_⟩
        · obtain ⟨q, hq, ⟨s1, s2, _⟩, s3, _⟩ := i2 _ hm
          have ea : q.r.addr = p.r.addr := by
            rw [s3]; unfold diskStepOf; dsimp only; omega
          have er : q.r = p.r := by rw [← s2, ea, q2]
          have h3 : p.r.seq ∈ pseqs ps := mem_pseqs.2 ⟨q, hq, s1, by rw [er]⟩
          have h4 : p.r.seq ∈ (seqOf p).toList := by unfold seqOf; rw [if_pos q1]; simp
          exact (List.nodup_append.1 hn).2.2 _ h4 _ h3 rfl
        · rcases List.mem_cons.1 hn' with rfl | hn'
          · exact ⟨p, by simp, ⟨q1, q2, hl.2⟩, by unfold diskStepOf; dsimp only; omega, by unfold diskStepOf; dsimp only; omega⟩
          · obtain ⟨q, hq, hh⟩ := i2 n hn'
            exact ⟨q, by simp [hq], hh⟩
      · have e : roomSteps f (p :: ps) = roomSteps f ps := by
          unfold roomSteps; rw [List.flatMap_cons]; unfold roomOne; rw [if_neg hl]; rfl
        rw [e]
        exact ⟨i1, fun n hn' => by obtain ⟨q, hq, hh⟩ := i2 n hn'; exact ⟨q, by simp [hq], hh⟩⟩
  obtain ⟨k1, k2⟩ := key _ (fun _ h => h) hnd
  unfold goneN
  rw [List.countP_eq_length_filter]
  have := len_le_of_nodup _ (addrs6.filter fun (n : Nat) => dirtyF f ((n : Int) + 1) && !dirtyF (roomF f) ((n : Int) + 1)) k1 fun n hn => by
    obtain ⟨p, hp, ⟨s1, s2, s4⟩, s3, h6⟩ := k2 n hn
    have hr := recOkB_iff.1 (hok p hp s1)
    have h0 := room_in h ho hc p.r.addr (by rw [s2]; exact ⟨p, hp, s1, rfl⟩)
    rw [s3] at s2 h0
    rw [List.mem_filter]
    refine ⟨?_, ?_⟩
    · rcases (show n = 0 ∨ n = 1 ∨ n = 2 ∨ n = 3 ∨ n = 4 ∨ n = 5 by omega) with rfl | rfl | rfl | rfl | rfl | rfl <;> decide
    · unfold dirtyF
      rw [h0, s2, s4, decide_eq_true (show 0 < p.r.seq by omega)]
      rfl
  simpa using this

theorem doAll_app (s : Store) (a b : List Step) : doAll s (a ++ b) = doAll (doAll s a) b := by unfold doAll; rw [List.foldl_append]
theorem doAll_disks : ∀ (xs : List Step) (s : Store), (∀ x ∈ xs, x.kind = 1) → (doAll s xs).flash = s.flash
  | [], s, _ => rfl
  | x :: xs, s, h => by
    show (doAll (doStep s x false) xs).flash = _
    rw [doAll_disks xs _ fun y hy => h y (by simp [hy])]
    unfold doStep; rw [if_pos (h x (by simp))]; rfl
theorem room_kinds (f : List Block) (ps : List Page) : ∀ x ∈ roomSteps f ps, x.kind = 1 := by
  intro x hx
  obtain ⟨p, hp, hm⟩ := List.mem_flatMap.1 hx
  unfold roomOne at hm
  split at hm
  · obtain rfl := List.mem_singleton.1 hm; rfl
  · cases hm
theorem cost_disks : ∀ (xs : List Step), (∀ x ∈ xs, x.kind = 1) → costOf xs = ⟨0, 0, xs.length⟩
  | [], _ => rfl
  | x :: xs, h => by
    have e : x :: xs = [x] ++ xs := rfl
    rw [e, costOf_app, cost_disks xs fun y hy => h y (by simp [hy])]
    have : costOf [x] = ⟨0, 0, 1⟩ := by
      show costStep cost0 x = _
      unfold costStep; rw [h x (by simp)]; rfl
    rw [this]
    unfold costSum
    simp only [List.length_append, List.length_singleton]
    congr 1

/-- the blocks behind a whole write -/
def wroteF (f : List Block) (k a v : Int) : List Block := writeF (roomF f) (room f).2.1.toNat ⟨k, next f, a, v⟩ false
theorem write_some {f : List Block} {k a v : Int} (hne : writeSteps f k a v ≠ []) : (room f).2.2 = true ∧ recOkB ⟨k, next f, a, v⟩ = true ∧ writeSteps f k a v = (room f).1 ++ [⟨3, 0, 0, (room f).2.1, ⟨k, next f, a, v⟩⟩] := by
  unfold writeSteps at hne ⊢
  split
  · rename_i hc
    rw [Bool.and_eq_true] at hc
    exact ⟨hc.1, hc.2, rfl⟩
  · rename_i hc
    rw [if_neg hc] at hne
    exact absurd rfl hne
theorem room_do (s : Store) : (doAll s (room s.flash).1).flash = roomF s.flash := by
  unfold room roomF
  by_cases ho : (openB s.flash).2 = true
  · rw [if_pos ho, if_pos ho]; rfl
  · rw [if_neg ho, if_neg ho]
    rw [doAll_app]
    have h1 := doAll_disks _ s (room_kinds s.flash (blockAt s.flash (old s.flash)).pages)
    generalize doAll s (roomSteps s.flash (blockAt s.flash (old s.flash)).pages) = t at *
    show (doStep t ⟨2, 0, 0, (old s.flash : Int), rec0⟩ false).flash = _
    unfold doStep
    dsimp only
    rw [if_neg (by decide), if_pos rfl, Int.toNat_natCast, h1]
theorem write_do {s : Store} {k a v : Int} (hne : writeSteps s.flash k a v ≠ []) : (doAll s (writeSteps s.flash k a v)).flash = wroteF s.flash k a v := by
  obtain ⟨_, _, e⟩ := write_some hne
  rw [e, doAll_app]
  have h1 := room_do s
  generalize doAll s (room s.flash).1 = t at *
  show (doStep t ⟨3, 0, 0, (room s.flash).2.1, ⟨k, next s.flash, a, v⟩⟩ false).flash = _
  unfold doStep
  dsimp only
  rw [if_neg (by decide), if_neg (by decide), if_pos rfl, h1]
  rfl
theorem wrote_last {f : List Block} (h : Ord f) {k a v : Int} (hne : writeSteps f k a v ≠ []) (a' : Int) : last (wroteF f k a v) a' = if a' = a then ⟨k, next f, a, v⟩ else last (roomF f) a' := by
  obtain ⟨hc, hr, _⟩ := write_some hne
  have hR := roomy h hc
  obtain ⟨b, hb, hb0⟩ := hR.opn.at_
  exact (last_write hR.ord.ok hb hb0 hr (fun n hn => seq_next h.ok n (hR.sub n hn)) a').2
theorem wrote_ord {f : List Block} (h : Ord f) {k a v : Int} (hne : writeSteps f k a v ≠ []) : Ord (wroteF f k a v) := by
  obtain ⟨hc, hr, _⟩ := write_some hne
  have hR := roomy h hc
  exact hR.ord.write hR.opn hr (fun n hn => seq_next h.ok n (hR.sub n hn)) false
theorem wrote_next {f : List Block} (h : Ord f) {k a v : Int} (hne : writeSteps f k a v ≠ []) : next (wroteF f k a v) ≤ next f + 1 := by
  obtain ⟨hc, hr, _⟩ := write_some hne
  have hR := roomy h hc
  obtain ⟨b, hb, hb0⟩ := hR.opn.at_
  have hrr := recOkB_iff.1 hr
  dsimp only at hrr
  have : maxSeq (wroteF f k a v) ≤ next f := by
    refine maxSeq_le (wrote_ord h hne).ok (by omega) fun n hn => ?_
    obtain ⟨b', e, hs, _⟩ := write_get (r := ⟨k, next f, a, v⟩) hR.ord.ok hb hb0 (fun hs => by have := seq_next h.ok _ (hR.sub _ hs); dsimp only at this; omega) false
    unfold wroteF at hn
    rw [e] at hn
    obtain ⟨hl, rfl⟩ := List.getElem?_eq_some_iff.1 hb
    rw [seqs_set _ _ hl] at hn
    have hn' : n ∈ seqs (roomF f) ∨ n = next f := by
      rw [seqs_at _ _ hl]
      simp only [List.mem_append] at hn ⊢
      rcases hn with hn | hn | hn
      · exact .inl (.inl hn)
      · rcases (hs n).1 hn with hn | ⟨_, hn⟩
        · exact .inl (.inr (.inl hn))
        · exact .inr hn
      · exact .inl (.inr (.inr hn))
    rcases hn' with hn' | rfl
    · have := seq_next h.ok n (hR.sub n hn'); omega
    · exact Int.le_refl _
  show maxSeq _ + 1 ≤ _
  omega
theorem cost_write {f : List Block} (h : Ord f) {k a v : Int} (hne : writeSteps f k a v ≠ []) :
    (costOf (writeSteps f k a v)).writes = 1 ∧ (costOf (writeSteps f k a v)).wipes = (if (openB f).2 then 0 else 1) ∧ 0 ≤ (costOf (writeSteps f k a v)).disks ∧ (costOf (writeSteps f k a v)).disks ≤ goneN f := by
  obtain ⟨hc, hr, e⟩ := write_some hne
  rw [e, costOf_app]
  have e3 : costOf [⟨3, 0, 0, (room f).2.1, ⟨k, next f, a, v⟩⟩] = ⟨1, 0, 0⟩ := rfl
  rw [e3]
  by_cases ho : (openB f).2 = true
  · have : (room f).1 = [] := by unfold room; rw [if_pos ho]
    rw [this, if_pos ho]
    refine ⟨rfl, rfl, Int.le_refl _, ?_⟩
    show (0 : Int) ≤ _
    omega
  · have ho' : (openB f).2 = false := by simpa using ho
    have : (room f).1 = roomSteps f (blockAt f (old f)).pages ++ [⟨2, 0, 0, (old f : Int), rec0⟩] := by unfold room; rw [if_neg ho]
    have e2 : costOf [⟨2, 0, 0, (old f : Int), rec0⟩] = ⟨0, 1, 0⟩ := rfl
    rw [this, if_neg ho, costOf_app, cost_disks _ (room_kinds f _), e2]
    have := told_gone h ho' hc
    unfold costSum
    dsimp only
    refine ⟨rfl, rfl, ?_, ?_⟩ <;> omega
end Go.Bu

set_option linter.unusedVariables false
set_option linter.unusedSimpArgs false
namespace Go.Bu
open Go

theorem countP_one {α : Type} (p q : α → Bool) (m : α) : ∀ (L : List α), L.Nodup → (∀ n ∈ L, n ≠ m → p n = q n) → L.countP p ≤ L.countP q + 1
  | [], _, _ => by simp
  | x :: L, hn, h => by
    rw [List.nodup_cons] at hn
    by_cases hx : x = m
    · subst hx
      have : L.countP p = L.countP q := List.countP_congr fun n hm => by rw [h n (by simp [hm]) fun e => hn.1 (by rw [← e]; exact hm)]
      simp only [List.countP_cons, this]
      split <;> split <;> omega
    · have ih := countP_one p q m L hn.2 fun n hm => h n (by simp [hm])
      simp only [List.countP_cons, h x (by simp) hx]
      omega
theorem wrote_dirty {f : List Block} (h : Ord f) {k a v : Int} (hne : writeSteps f k a v ≠ []) (a' : Int) : dirtyF (wroteF f k a v) a' = if a' = a then k == 1 else dirtyF (roomF f) a' := by
  have hr := recOkB_iff.1 (write_some hne).2.1
  dsimp only at hr
  unfold dirtyF
  rw [wrote_last h hne]
  by_cases ha : a' = a
  · rw [if_pos ha, if_pos ha]
    dsimp only
    rw [decide_eq_true (by omega)]; rfl
  · rw [if_neg ha, if_neg ha]
theorem dirty_put {f : List Block} (h : Ord f) {k a v : Int} (hne : writeSteps f k a v ≠ []) : dirtyN (wroteF f k a v) ≤ dirtyN (roomF f) + 1 := by
  refine countP_one _ _ (a - 1).toNat addrs6 (by decide) fun n hn hna => ?_
  rw [wrote_dirty h hne, if_neg (by omega)]
theorem dirty_clean {f : List Block} (h : Ord f) {k a v : Int} (hne : writeSteps f k a v ≠ []) (hk : k ≠ 1) : dirtyN (wroteF f k a v) + (if dirtyF (roomF f) a then 1 else 0) ≤ dirtyN (roomF f) := by
  have hr := recOkB_iff.1 (write_some hne).2.1
  dsimp only at hr
  have hs := countP_split (fun n : Nat => dirtyF (roomF f) ((n : Int) + 1)) (fun n : Nat => dirtyF (wroteF f k a v) ((n : Int) + 1)) addrs6 fun n _ hd => by
    rw [wrote_dirty h hne] at hd
    split at hd
    · simp at hd; exact absurd hd hk
    · exact hd
  unfold dirtyN
  rw [hs]
  split
  · rename_i hd
    have : 0 < addrs6.countP (fun n : Nat => dirtyF (roomF f) ((n : Int) + 1) && !dirtyF (wroteF f k a v) ((n : Int) + 1)) := by
      rw [List.countP_pos_iff]
      refine ⟨(a - 1).toNat, ?_, ?_⟩
      · have : (a - 1).toNat < 6 := by omega
        generalize (a - 1).toNat = n at *
        rcases (show n = 0 ∨ n = 1 ∨ n = 2 ∨ n = 3 ∨ n = 4 ∨ n = 5 by omega) with rfl | rfl | rfl | rfl | rfl | rfl <;> decide
      · rw [show (((a - 1).toNat : Nat) : Int) + 1 = a by omega, hd, wrote_dirty h hne, if_pos rfl]
        simpa using hk
    omega
  · omega
theorem tell_flash (s : Store) (x : Step) (t : Bool) (h : x.kind = 1) : (doStep s x t).flash = s.flash := by
  unfold doStep; rw [if_pos h]; split <;> rfl
/-- a flush is paid by what was dirty -/
theorem flush_paid {s : Store} (h : Ord s.flash) (n : Nat) : 0 ≤ (costOf (flushSteps s n)).disks ∧ (costOf (flushSteps s n)).disks + 2 * dirtyN (allStep s n).flash ≤ 2 * dirtyN s.flash := by
  unfold allStep flushSteps
  by_cases hd : dirtyB s ((n : Int) + 1) = true
  · rw [if_pos hd]
    by_cases hne : writeSteps s.flash 2 ((n : Int) + 1) (readN s n) = []
    · rw [if_pos hne]
      exact ⟨by decide, by show (0 : Int) + _ ≤ _; show (0 : Int) + 2 * ((dirtyN s.flash : Nat) : Int) ≤ _; omega⟩
    · rw [if_neg hne]
      generalize readN s n = v at *
      have hsd : (doStep s ⟨1, (n : Int) + 1, v, 0, rec0⟩ false).flash = s.flash := tell_flash s _ _ rfl
      have hfl : (doAll s (⟨1, (n : Int) + 1, v, 0, rec0⟩ :: writeSteps s.flash 2 ((n : Int) + 1) v)).flash = wroteF s.flash 2 ((n : Int) + 1) v := by
        show (doAll (doStep s ⟨1, (n : Int) + 1, v, 0, rec0⟩ false) _).flash = _
        have hw := write_do (s := doStep s ⟨1, (n : Int) + 1, v, 0, rec0⟩ false) (k := 2) (a := (n : Int) + 1) (v := v) (by rw [hsd]; exact hne)
        rw [hsd] at hw
        exact hw
      rw [hfl]
      obtain ⟨c1, c2, c3, c4⟩ := cost_write h hne
      have hc := (write_some hne).1
      have d1 := dirty_split h hc
      have d2 := dirty_clean h hne (by decide)
      have e : costOf (⟨1, (n : Int) + 1, v, 0, rec0⟩ :: writeSteps s.flash 2 ((n : Int) + 1) v) = costSum ⟨0, 0, 1⟩ (costOf (writeSteps s.flash 2 ((n : Int) + 1) v)) :=
        costOf_app [⟨1, (n : Int) + 1, v, 0, rec0⟩] _
      rw [e]
      unfold costSum
      dsimp only
      have hg : dirtyF (roomF s.flash) ((n : Int) + 1) = false → 0 < goneN s.flash := fun h0 => by
        unfold goneN
        rw [List.countP_pos_iff]
        refine ⟨n, ?_, ?_⟩
        · have hr := recOkB_iff.1 (write_some hne).2.1
          dsimp only at hr
          rcases (show n = 0 ∨ n = 1 ∨ n = 2 ∨ n = 3 ∨ n = 4 ∨ n = 5 by omega) with rfl | rfl | rfl | rfl | rfl | rfl <;> decide
        · have hd' : dirtyF s.flash ((n : Int) + 1) = true := hd
          rw [h0, hd']; rfl
      cases hq : dirtyF (roomF s.flash) ((n : Int) + 1) with
      | true => rw [hq] at d2; simp only [if_true] at d2; omega
      | false => have := hg hq; rw [hq] at d2; simp at d2; omega
  · rw [if_neg hd]
    exact ⟨by decide, by show (0 : Int) + 2 * ((dirtyN s.flash : Nat) : Int) ≤ _; omega⟩
theorem put_paid {s : Store} (h : Ord s.flash) (k a v : Int) : 0 ≤ (costOf (writeSteps s.flash k a v)).disks ∧ (costOf (writeSteps s.flash k a v)).disks + dirtyN (doAll s (writeSteps s.flash k a v)).flash ≤ dirtyN s.flash + (if k = 1 then 1 else 0) ∧
    (costOf (writeSteps s.flash k a v)).disks + 2 * dirtyN (doAll s (writeSteps s.flash k a v)).flash ≤ 2 * dirtyN s.flash + (if k = 1 then 2 else 0) := by
  by_cases hne : writeSteps s.flash k a v = []
  · rw [hne]
    refine ⟨by decide, ?_, ?_⟩
    · show (0 : Int) + ((dirtyN s.flash : Nat) : Int) ≤ _; split <;> omega
    · show (0 : Int) + 2 * ((dirtyN s.flash : Nat) : Int) ≤ _; split <;> omega
  · obtain ⟨c1, c2, c3, c4⟩ := cost_write h hne
    have hc := (write_some hne).1
    have d1 := dirty_split h hc
    rw [write_do hne]
    by_cases hk : k = 1
    · have d2 := dirty_put h hne
      rw [if_pos hk, if_pos hk]
      omega
    · have d2 := dirty_clean h hne hk
      rw [if_neg hk, if_neg hk]
      omega
theorem toSteps_whole (s : Store) (xs : List Step) (h : xs.length ≤ 60) : toSteps s xs 60 false = doAll s xs := by
  unfold toSteps
  rw [if_neg (by simp), List.take_of_length_le (by simpa using h)]
theorem do_whole {s : Store} (h : storeOkB s = true) (e : Event) (h4 : e.kind ≠ 4) : playDoS s (wholeE e) = doAll s (playSteps s (wholeE e)) := by
  unfold playDoS
  have := play_le (storeOk_P h).flash (wholeE e)
  rw [if_neg (show ¬ (wholeE e).kind = 4 from h4), if_neg (by unfold wholeE; dsimp only; omega)]
  show toSteps s _ 60 false = _
  exact toSteps_whole s _ (by omega)
theorem all_cost (s : Store) (e : Event) : evCost s (wholeE ⟨4, e.a, e.b, e.c, e.torn⟩) = costOf (allPair s).2 := by
  unfold evCost begunS wholeE; rw [if_pos rfl]
theorem play_paid {s : Store} (h : storeOkB s = true) (e : Event) : 0 ≤ (evCost s (wholeE e)).disks ∧ (evCost s (wholeE e)).disks + 2 * dirtyN (playDoS s (wholeE e)).flash ≤ 2 * dirtyN s.flash + (if e.kind = 1 then 2 else 0) := by
  by_cases h4 : e.kind = 4
  · have hcost : evCost s (wholeE e) = costOf (allPair s).2 := by unfold evCost begunS; rw [if_pos (show (wholeE e).kind = 4 from h4)]
    have hdo : playDoS s (wholeE e) = (allPair s).1 := by unfold playDoS; rw [if_pos (show (wholeE e).kind = 4 from h4), allPair_fst]
    rw [hcost, hdo, if_neg (by omega)]
    have key : ∀ (L : List Nat) (t : Store) (st : List Step), (∀ n ∈ L, n < 6) → storeOkB t = true → 0 ≤ (costOf st).disks →
        0 ≤ (costOf (L.foldl allPairStep (t, st)).2).disks ∧ (costOf (L.foldl allPairStep (t, st)).2).disks + 2 * dirtyN (L.foldl allPairStep (t, st)).1.flash ≤ (costOf st).disks + 2 * dirtyN t.flash := by
      intro L
      induction L with
      | nil => exact fun t st _ _ h0 => ⟨h0, Int.le_refl _⟩
      | cons n L ih =>
        intro t st hL ht h0
        have hp := flush_paid (storeOk_iff.1 ht).ord n
        have := ih (allStep t n) (st ++ flushSteps t n) (fun m hm => hL m (by simp [hm])) (storeOk_flush ht (hL n (by simp))) (by rw [costOf_app]; unfold costSum; dsimp only; omega)
        rw [List.foldl_cons]
        show 0 ≤ (costOf (L.foldl allPairStep (allStep t n, st ++ flushSteps t n)).2).disks ∧ (costOf (L.foldl allPairStep (allStep t n, st ++ flushSteps t n)).2).disks + 2 * ((dirtyN (L.foldl allPairStep (allStep t n, st ++ flushSteps t n)).1.flash : Nat) : Int) ≤ _
        refine ⟨this.1, Int.le_trans this.2 ?_⟩
        rw [costOf_app]; unfold costSum; dsimp only; omega
    have := key addrs6 s [] (by decide) h (by decide)
    unfold allPair
    refine ⟨this.1, Int.le_trans this.2 ?_⟩
    show (0 : Int) + _ ≤ _
    omega
  · rw [whole_cost h e h4, do_whole h e h4]
    have ho := (storeOk_iff.1 h).ord
    unfold playSteps
    by_cases h1 : e.kind = 1
    · rw [if_pos (show (wholeE e).kind = 1 from h1), if_pos h1]
      have := put_paid ho 1 e.a e.b
      exact ⟨this.1, this.2.2⟩
    · rw [if_neg (show ¬ (wholeE e).kind = 1 from h1), if_neg h1]
      by_cases h2 : e.kind = 2
      · rw [if_pos (show (wholeE e).kind = 2 from h2)]
        unfold addrStep
        split
        · have := flush_paid ho ((wholeE e).a - 1).toNat
          exact ⟨this.1, by rw [Int.add_zero]; exact this.2⟩
        · exact ⟨by decide, by show (0 : Int) + 2 * ((dirtyN s.flash : Nat) : Int) ≤ _; omega⟩
      · rw [if_neg (show ¬ (wholeE e).kind = 2 from h2)]
        by_cases h3 : e.kind = 3
        · rw [if_pos (show (wholeE e).kind = 3 from h3)]
          unfold addrStep
          split
          · unfold fillSteps
            split
            · exact ⟨by decide, by show (0 : Int) + 2 * ((dirtyN s.flash : Nat) : Int) ≤ _; omega⟩
            · have := put_paid ho 2 ((((wholeE e).a - 1).toNat : Int) + 1) (s.disk.getD ((wholeE e).a - 1).toNat 0)
              refine ⟨this.1, ?_⟩
              have h := this.2.2
              rw [if_neg (by decide)] at h
              exact h
          · exact ⟨by decide, by show (0 : Int) + 2 * ((dirtyN s.flash : Nat) : Int) ≤ _; omega⟩
        · rw [if_neg (show ¬ (wholeE e).kind = 3 from h3)]
          exact ⟨by decide, by show (0 : Int) + 2 * ((dirtyN s.flash : Nat) : Int) ≤ _; omega⟩
def putsN (es : List Event) : Nat := es.countP fun e => e.kind == 1
theorem disks_paid : ∀ (es : List Event) (s : Store) (c : Cost), storeOkB s = true → ((evCosts s (es.map wholeE)).foldl costSum c).disks + 2 * dirtyN (evStore s (es.map wholeE)).flash ≤ c.disks + 2 * dirtyN s.flash + 2 * putsN es
  | [], s, c, _ => by show c.disks + 2 * ((dirtyN s.flash : Nat) : Int) ≤ _; unfold putsN; simp
  | e :: es, s, c, h => by
    have hp := play_paid h e
    have ih := disks_paid es (playDoS s (wholeE e)) (costSum c (evCost s (wholeE e))) (storeOk_play h _)
    show ((evCosts (playDoS s (wholeE e)) (es.map wholeE)).foldl costSum (costSum c (evCost s (wholeE e)))).disks + 2 * ((dirtyN (evStore (playDoS s (wholeE e)) (es.map wholeE)).flash : Nat) : Int) ≤ _
    refine Int.le_trans ih ?_
    have e2 : putsN (e :: es) = putsN es + (if e.kind = 1 then 1 else 0) := by
      unfold putsN; rw [List.countP_cons]; simp
    rw [e2]
    unfold costSum
    dsimp only
    split at hp <;> rename_i hk <;> simp only [hk, if_true, if_false] <;> push_cast <;> omega
/-- the law of FnCostDisks -/
theorem run_disks (es : List Event) : (runCost (es.map wholeE)).disks ≤ 2 * putsN es := by
  have := disks_paid es newStore cost0 storeOk_new
  have h0 : dirtyN newStore.flash = 0 := by decide +kernel
  rw [h0] at this
  unfold runCost sumCost
  show _ ≤ (2 : Int) * (putsN es : Nat)
  have h1 : cost0.disks = 0 := rfl
  omega
end Go.Bu

set_option linter.unusedVariables false
set_option linter.unusedSimpArgs false
namespace Go.Bu
open Go

/-! ### flushed twice -/
theorem flush_none {s : Store} (h : Ord s.flash) (n : Nat) : flushSteps (allStep s n) n = [] := by
  by_cases hd : dirtyB s ((n : Int) + 1) = true
  · by_cases hne : writeSteps s.flash 2 ((n : Int) + 1) (readN s n) = []
    · have e : flushSteps s n = [] := by unfold flushSteps; rw [if_pos hd, if_pos hne]
      have : allStep s n = s := by unfold allStep; rw [e]; rfl
      rw [this, e]
    · have e : flushSteps s n = ⟨1, (n : Int) + 1, readN s n, 0, rec0⟩ :: writeSteps s.flash 2 ((n : Int) + 1) (readN s n) := by unfold flushSteps; rw [if_pos hd, if_neg hne]
      have hsd : (doStep s ⟨1, (n : Int) + 1, readN s n, 0, rec0⟩ false).flash = s.flash := tell_flash s _ _ rfl
      have hfl : (allStep s n).flash = wroteF s.flash 2 ((n : Int) + 1) (readN s n) := by
        unfold allStep
        rw [e]
        show (doAll (doStep s ⟨1, (n : Int) + 1, readN s n, 0, rec0⟩ false) _).flash = _
        have hw := write_do (s := doStep s ⟨1, (n : Int) + 1, readN s n, 0, rec0⟩ false) (k := 2) (a := (n : Int) + 1) (v := readN s n) (by rw [hsd]; exact hne)
        rw [hsd] at hw
        exact hw
      have hq : dirtyB (allStep s n) ((n : Int) + 1) = false := by
        show dirtyF (allStep s n).flash ((n : Int) + 1) = false
        rw [hfl, wrote_dirty h hne, if_pos rfl]; rfl
      unfold flushSteps
      rw [if_neg (by rw [hq]; decide)]
  · have e : flushSteps s n = [] := by unfold flushSteps; rw [if_neg hd]
    have : allStep s n = s := by unfold allStep; rw [e]; rfl
    rw [this, e]
theorem flush_again {s : Store} (h : storeOkB s = true) (e : Event) (h2 : e.kind = 2) : playSteps (playDoS s (wholeE e)) (wholeE e) = [] := by
  rw [do_whole h e (by omega)]
  have e2 : ∀ t, playSteps t (wholeE e) = addrStep (flushSteps t) e.a := fun t => by
    unfold playSteps
    rw [if_neg (show ¬ (wholeE e).kind = 1 by show ¬ e.kind = 1; omega), if_pos (show (wholeE e).kind = 2 from h2)]; rfl
  rw [e2, e2]
  unfold addrStep
  split
  · exact flush_none (storeOk_iff.1 h).ord _
  · rfl
theorem again_cost {s : Store} (h : storeOkB s = true) (e : Event) (h2 : e.kind = 2) : evCost (playDoS s (wholeE e)) (wholeE e) = cost0 ∧ playDoS (playDoS s (wholeE e)) (wholeE e) = playDoS s (wholeE e) := by
  have hs := storeOk_play h (wholeE e)
  rw [whole_cost hs e (by omega), do_whole hs e (by omega), flush_again h e h2]
  exact ⟨rfl, rfl⟩
/-- each event played to its end, those of flushing twice -/
def twiceE (es : List Event) : List Event := es.flatMap fun e => if e.kind = 2 then [wholeE e, wholeE e] else [wholeE e]
theorem twice_len : ∀ es : List Event, es.length ≤ (twiceE es).length ∧ (twiceE es).length ≤ 2 * es.length
  | [] => ⟨Nat.le_refl _, Nat.le_refl _⟩
  | e :: es => by
    have := twice_len es
    unfold twiceE at this ⊢
    rw [List.flatMap_cons, List.length_append, List.length_cons]
    split <;> simp only [List.length_cons, List.length_nil] <;> omega
theorem twice_snoc (es : List Event) (e : Event) : twiceE (es ++ [e]) = if e.kind = 2 then twiceE es ++ [wholeE e] ++ [wholeE e] else twiceE es ++ [wholeE e] := by
  unfold twiceE
  rw [List.flatMap_append]
  simp only [List.flatMap_cons, List.flatMap_nil, List.append_nil]
  split <;> simp
theorem cost_zero (c : Cost) : costSum c cost0 = c := by unfold costSum cost0; simp
theorem twice_costs : ∀ (es : List Event) (s : Store) (c : Cost), storeOkB s = true → (evCosts s (twiceE es)).foldl costSum c = (evCosts s (es.map wholeE)).foldl costSum c
  | [], _, _, _ => rfl
  | e :: es, s, c, h => by
    have ih := twice_costs es (playDoS s (wholeE e)) (costSum c (evCost s (wholeE e))) (storeOk_play h _)
    by_cases h2 : e.kind = 2
    · have e1 : twiceE (e :: es) = wholeE e :: wholeE e :: twiceE es := by unfold twiceE; rw [List.flatMap_cons, if_pos h2]; rfl
      obtain ⟨a1, a2⟩ := again_cost h e h2
      rw [e1]
      show (evCosts (playDoS (playDoS s (wholeE e)) (wholeE e)) (twiceE es)).foldl costSum (costSum (costSum c (evCost s (wholeE e))) (evCost (playDoS s (wholeE e)) (wholeE e))) = _
      rw [a1, a2, cost_zero]
      exact ih
    · have e1 : twiceE (e :: es) = wholeE e :: twiceE es := by unfold twiceE; rw [List.flatMap_cons, if_neg h2]; rfl
      rw [e1]
      exact ih
/-- the law of FnCostFlush -/
theorem run_twice (es : List Event) : runCost (twiceE es) = runCost (es.map wholeE) := twice_costs es newStore cost0 storeOk_new

/-! ### puts -/
theorem cleanF_set : ∀ (f : List Block) (i : Nat) (hi : i < f.length) (b : Block), cleanF (f.set i b) + cleanN f[i].pages = cleanF f + cleanN b.pages
  | [], _, hi, _ => by simp at hi
  | x :: f, 0, _, b => by unfold cleanF; simp; omega
  | x :: f, i + 1, hi, b => by
    have := cleanF_set f i (by simpa using hi) b
    unfold cleanF at this ⊢
    simp only [List.set_cons_succ, List.map_cons, List.sum_cons, List.getElem_cons_succ] at this ⊢
    omega
theorem cleanF_le : ∀ (f : List Block), (∀ b ∈ f, cleanN b.pages ≤ 4) → cleanF f ≤ 4 * f.length
  | [], _ => by decide
  | x :: f, h => by
    have := cleanF_le f fun b hb => h b (by simp [hb])
    have := h x (by simp)
    unfold cleanF at *
    simp only [List.map_cons, List.sum_cons, List.length_cons]
    push_cast
    omega
theorem cleanF_zero : ∀ (f : List Block), (∀ b ∈ f, cleanN b.pages = 0) → cleanF f = 0
  | [], _ => by decide
  | x :: f, h => by
    have := cleanF_zero f fun b hb => h b (by simp [hb])
    have := h x (by simp)
    unfold cleanF at *
    simp only [List.map_cons, List.sum_cons]
    omega
theorem cleanN_one (p : Page) : cleanN [p] = if p.state = 0 then 1 else 0 := by
  show cleanStep 0 p = _
  unfold cleanStep; split <;> rfl
theorem write_block {f : List Block} (h : FlashOk f) {i : Nat} (hi : i < f.length) (hc : cleanN f[i].pages ≠ 0) {r : Rec} (hs : r.seq ∉ seqs f) :
    ∃ b', writeF f i r false = f.set i b' ∧ b'.worn = f[i].worn ∧ cleanN b'.pages + 1 = cleanN f[i].pages := by
  have hbl := h.blocks _ (List.getElem_mem hi)
  obtain ⟨f1, f2, f3, f4⟩ := blockB_free hbl
  have h4 := (blockB_iff.1 hbl).1
  have hu : seqUsed f r.seq = false := by
    cases e : seqUsed f r.seq with
    | false => rfl
    | true => exact absurd (seqUsed_iff.1 e) hs
  unfold writeF writeOk
  rw [blockAt_get hi, hu, decide_eq_false hc]
  refine ⟨_, if_pos rfl, rfl, ?_⟩
  have hk : 4 - (cleanN f[i].pages).toNat < f[i].pages.length := by omega
  generalize hK : 4 - (cleanN f[i].pages).toNat = k at *
  have h0 : (f[i].pages[k]).state = 0 := f2 _ (by rw [List.drop_eq_getElem_cons hk]; exact List.mem_cons_self)
  dsimp only
  rw [set_at _ _ hk, cleanN_append, show pageW r false :: f[i].pages.drop (k + 1) = [pageW r false] ++ f[i].pages.drop (k + 1) from rfl, cleanN_append, cleanN_one]
  have e2 := split_at f[i].pages k hk
  have e3 : cleanN f[i].pages = cleanN (f[i].pages.take k) + (1 + cleanN (f[i].pages.drop (k + 1))) := by
    conv => lhs; rw [e2]
    rw [cleanN_append, show f[i].pages[k] :: f[i].pages.drop (k + 1) = [f[i].pages[k]] ++ f[i].pages.drop (k + 1) from rfl, cleanN_append, cleanN_one, if_pos h0]
  rw [e3]
  have : (pageW r false).state = 1 := rfl
  rw [if_neg (by rw [this]; decide)]
  omega
theorem wrote_clean {f : List Block} (h : Ord f) {k a v : Int} (hne : writeSteps f k a v ≠ []) : cleanF (wroteF f k a v) + 1 = cleanF f + 4 * (if (openB f).2 then 0 else 1) := by
  obtain ⟨hc, hr, _⟩ := write_some hne
  have hR := roomy h hc
  obtain ⟨b, hb, hb0⟩ := hR.opn.at_
  obtain ⟨hl, rfl⟩ := List.getElem?_eq_some_iff.1 hb
  obtain ⟨b', e, _, e2⟩ := write_block (r := ⟨k, next f, a, v⟩) hR.ord.ok hl hb0 (fun hs => by have := seq_next h.ok _ (hR.sub _ hs); dsimp only at this; omega)
  have e1 : cleanF (roomF f) = cleanF f + 4 * (if (openB f).2 then 0 else 1) := by
    by_cases ho : (openB f).2 = true
    · rw [if_pos ho]; unfold roomF; rw [if_pos ho]; omega
    · rw [if_neg ho]
      have ho' : (openB f).2 = false := by simpa using ho
      have hol := old4 h
      have := cleanF_set f (old f) hol ⟨List.replicate 4 (blank (tornSt false)), (blockAt f (old f)).worn + 1⟩
      have h0 := openB_no h.ok ho' _ (List.getElem_mem hol)
      have h4 : cleanN (List.replicate 4 (blank (tornSt false))) = 4 := by decide
      unfold roomF
      rw [if_neg ho]
      unfold wipeF
      rw [if_neg (by have := room_worn ho' hc; omega)]
      dsimp only at this
      omega
  unfold wroteF
  rw [e]
  have := cleanF_set (roomF f) _ hl b'
  omega
theorem wrote_worn {f : List Block} (h : Ord f) {k a v : Int} (hne : writeSteps f k a v ≠ []) {m : Int} (hm : ∀ b ∈ f, b.worn ≤ m) : ∀ b ∈ wroteF f k a v, b.worn ≤ m + 1 := by
  obtain ⟨hc, hr, _⟩ := write_some hne
  have hR := roomy h hc
  obtain ⟨b, hb, hb0⟩ := hR.opn.at_
  obtain ⟨hl, rfl⟩ := List.getElem?_eq_some_iff.1 hb
  obtain ⟨b', e, e1, e2⟩ := write_block (r := ⟨k, next f, a, v⟩) hR.ord.ok hl hb0 (fun hs => by have := seq_next h.ok _ (hR.sub _ hs); dsimp only at this; omega)
  have hroom : ∀ b ∈ roomF f, b.worn ≤ m + 1 := by
    unfold roomF
    split
    · exact fun b hb => by have := hm b hb; omega
    · unfold wipeF
      split
      · exact fun b hb => by have := hm b hb; omega
      · intro b hb
        rcases mem_set hb with hb | rfl
        · have := hm b hb; omega
        · have := hm _ (blockAt_mem (old4 h)); dsimp only; omega
  unfold wroteF
  rw [e]
  intro b hb
  rcases mem_set hb with hb | rfl
  · exact hroom b hb
  · rw [e1]; exact hroom _ (List.getElem_mem hl)
theorem put_can {f : List Block} (h : Ord f) {a v : Int} (ha : 1 ≤ a ∧ a ≤ 6) (hv : 0 ≤ v ∧ v ≤ 9) (hw : ∀ b ∈ f, b.worn < 200) (hn : next f ≤ 600) : writeSteps f 1 a v ≠ [] := by
  have h0 : 0 ≤ maxSeq f := (maxSeq_bd (flashOk_iff.2 h.ok)).1
  have hc : (room f).2.2 = true := by
    unfold room
    split
    · rfl
    · dsimp only
      exact decide_eq_true (hw _ (blockAt_mem (old4 h)))
  have hr : recOkB ⟨1, next f, a, v⟩ = true := recOkB_iff.2 ⟨by dsimp only; omega, by dsimp only; unfold next at hn ⊢; omega, ha, hv⟩
  unfold writeSteps
  rw [hc, hr]
  simp
/-- a put, played to its end -/
structure PutE (e : Event) : Prop where
  kind : e.kind = 1
  a : 1 ≤ e.a ∧ e.a ≤ 6
  b : 0 ≤ e.b ∧ e.b ≤ 9
theorem cleanF_16 {s : Store} (h : storeOkB s = true) : cleanF s.flash ≤ 16 := by
  have ho := (storeOk_iff.1 h).ord
  have := cleanF_le s.flash fun b hb => (blockB_free (ho.ok.blocks b hb)).2.2.2
  have := ho.ok.len
  omega
theorem puts_paid : ∀ (es : List Event) (s : Store) (c : Cost) (n : Int), storeOkB s = true → (∀ b ∈ s.flash, b.worn ≤ n) → next s.flash ≤ n + 1 → n + es.length ≤ 60 → (∀ e ∈ es, PutE e) →
    ((evCosts s (es.map wholeE)).foldl costSum c).writes = c.writes + es.length ∧
    ((evCosts s (es.map wholeE)).foldl costSum c).disks + dirtyN (evStore s (es.map wholeE)).flash ≤ c.disks + dirtyN s.flash + es.length ∧
    cleanF (evStore s (es.map wholeE)).flash + es.length + 4 * c.wipes = cleanF s.flash + 4 * ((evCosts s (es.map wholeE)).foldl costSum c).wipes ∧ storeOkB (evStore s (es.map wholeE)) = true
  | [], s, c, n, h, _, _, _, _ => by
    refine ⟨by show c.writes = c.writes + 0; omega, ?_, ?_, h⟩
    · show c.disks + ((dirtyN s.flash : Nat) : Int) ≤ _; simp
    · show cleanF s.flash + 0 + 4 * c.wipes = cleanF s.flash + 4 * c.wipes; omega
  | e :: es, s, c, n, h, hw, hx, hl, hp => by
    have hpe := hp e (by simp)
    have ho := (storeOk_iff.1 h).ord
    simp only [List.length_cons] at hl
    have hne := put_can ho hpe.a hpe.b (fun b hb => by have := hw b hb; push_cast at hl; omega) (by push_cast at hl; omega)
    have h4 : e.kind ≠ 4 := by have := hpe.kind; omega
    have hps : playSteps s (wholeE e) = writeSteps s.flash 1 e.a e.b := by unfold playSteps; rw [if_pos (show (wholeE e).kind = 1 from hpe.kind)]; rfl
    have hcost : evCost s (wholeE e) = costOf (writeSteps s.flash 1 e.a e.b) := by rw [whole_cost h e h4, hps]
    have hfl : (playDoS s (wholeE e)).flash = wroteF s.flash 1 e.a e.b := by rw [do_whole h e h4, hps, write_do hne]
    have ih := puts_paid es (playDoS s (wholeE e)) (costSum c (evCost s (wholeE e))) (n + 1) (storeOk_play h _) (by rw [hfl]; exact wrote_worn ho hne hw) (by rw [hfl]; have := wrote_next ho hne; omega) (by push_cast at hl; omega) (fun x hx => hp x (by simp [hx]))
    have hc := wrote_clean ho hne
    have hcw := cost_write ho hne
    have hpp := (put_paid ho 1 e.a e.b).2.1
    rw [write_do hne, if_pos rfl] at hpp
    rw [hfl, hcost] at ih
    show ((evCosts (playDoS s (wholeE e)) (es.map wholeE)).foldl costSum (costSum c (evCost s (wholeE e)))).writes = _ ∧ ((evCosts (playDoS s (wholeE e)) (es.map wholeE)).foldl costSum (costSum c (evCost s (wholeE e)))).disks + dirtyN (evStore (playDoS s (wholeE e)) (es.map wholeE)).flash ≤ _ ∧ cleanF (evStore (playDoS s (wholeE e)) (es.map wholeE)).flash + _ + _ = _ + 4 * ((evCosts (playDoS s (wholeE e)) (es.map wholeE)).foldl costSum (costSum c (evCost s (wholeE e)))).wipes ∧ storeOkB (evStore (playDoS s (wholeE e)) (es.map wholeE)) = true
    rw [hcost]
    obtain ⟨i1, i2, i3, i4⟩ := ih
    obtain ⟨q1, q2, q3, q4⟩ := hcw
    refine ⟨?_, ?_, ?_, i4⟩
    · rw [i1]; unfold costSum; dsimp only; simp only [List.length_cons]; push_cast; omega
    · unfold costSum at i2 ⊢; dsimp only at i2 ⊢; simp only [List.length_cons]; push_cast; omega
    · unfold costSum at i3 ⊢; dsimp only at i3 ⊢; simp only [List.length_cons]; push_cast; rw [q2] at i3 ⊢; omega
/-- the law of FnCostPuts -/
theorem run_puts {es : List Event} (hl : es.length ≤ 60) (hp : ∀ e ∈ es, PutE e) : (runCost (es.map wholeE)).writes = es.length ∧ (runCost (es.map wholeE)).disks ≤ es.length ∧ (runCost (es.map wholeE)).wipes ≤ es.length / 4 := by
  have h := puts_paid es newStore cost0 0 storeOk_new (by decide) (by decide +kernel) (by omega) hp
  have h0 : dirtyN newStore.flash = 0 := by decide +kernel
  have h1 : cleanF newStore.flash = 16 := by decide +kernel
  rw [h0, h1] at h
  obtain ⟨i1, i2, i3, i4⟩ := h
  have := cleanF_16 i4
  have z1 : cost0.writes = 0 := rfl
  have z2 : cost0.wipes = 0 := rfl
  have z3 : cost0.disks = 0 := rfl
  unfold runCost sumCost
  refine ⟨by rw [i1, z1]; omega, by omega, by omega⟩
end Go.Bu

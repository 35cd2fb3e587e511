/- Steps done in place, as the reference does them: l2Seq, l2Wipe, l2Write, l12Do. -/
import Derived.Test.YtcainddboblpbaaOwnF
import Derived.Test.YtcainddboblpbaaPlayS
set_option linter.unusedVariables false
set_option linter.unusedSimpArgs false
namespace Go.Bu
open Go Go.RowKit Go.Plan Go.Proofs

theorem any_drop {α : Type} (q : α → Bool) (xs : List α) (k : Nat) (h : k < xs.length) : (xs.drop k).any q = (q xs[k] || (xs.drop (k + 1)).any q) := by
  rw [List.drop_eq_getElem_cons h, List.any_cons]

def isSeq (n : Int) (p : Page) : Bool := p.state == 1 && p.r.seq == n
def seqUsed (f : List Block) (n : Int) : Bool := f.any fun b => b.pages.any (isSeq n)

set_option maxHeartbeats 1000000 in
theorem l2Seq_c (v : Value) (f : List Block) (n : Int) (w : World) (h : Flash (Old w) w v f) (hn : f.length ≤ 1048576) (hp : ∀ b ∈ f, b.pages.length ≤ 1048576) :
    Calls Try.prog 129 #[v, .int .i64 n] w (Ret w (.bool (seqUsed f n))) := by
  obtain ⟨a, cap, rfl⟩ := h.form
  obtain ⟨A, hA⟩ : ∃ A, seqUsed f n = A := ⟨_, rfl⟩
  rw [hA]
  unfold seqUsed at hA
  have HP := Lib.hid hp; clear hp
  have HA := Lib.hid hA; clear hA
  go_enter Try.func129, Try.ntmps129
  go_wp2
  go_loop [5] (fun y => ∃ (i : Nat), i ≤ f.length ∧ y = .int .i64 i ∧ Hid ((f.drop i).any (fun b => b.pages.any (isSeq n)) = A)) (fun y => f.length - (intOf y).toNat)
  case atStart => exact ⟨0, by omega, rfl, HA⟩
  case round =>
    obtain ⟨i, hi, rfl, HR⟩ := hrel
    by_cases hlt : i < f.length
    · obtain ⟨b, o, pv, rfl, hb, hpp, h0, h1⟩ := h.at2 hlt
      obtain ⟨pa, pcap, rfl⟩ := hpp.form
      have hpl := HP.out f[i] (List.getElem_mem _)
      rw [any_drop _ _ _ hlt] at HR
      go_wp2
      go_loop [6] (fun y => ∃ (k : Nat), k ≤ f[i].pages.length ∧ y = .int .i64 k ∧ Hid (((f[i].pages.drop k).any (isSeq n) || (f.drop (i + 1)).any (fun b => b.pages.any (isSeq n))) = A)) (fun y => f[i].pages.length - (intOf y).toNat)
      case atStart => exact ⟨0, by omega, rfl, HR⟩
      case round =>
        clear HR
        obtain ⟨k, hk, rfl, HR⟩ := hrel
        by_cases hlk : k < f[i].pages.length
        · obtain ⟨b2, o2, rfl, hb2, e0, e1, e2, e3, e4⟩ := hpp.at5 hlk
          rw [any_drop _ _ _ hlk] at HR
          have hq : isSeq n f[i].pages[k] = (f[i].pages[k].state == 1 && f[i].pages[k].r.seq == n) := rfl
          have HQ := Lib.hid hq; clear hq
          go_wp2
          all_goals try
            go_ret
            have hr := HR.out
            try simp only [beq_iff_eq, Bool.not_eq_true, beq_eq_false_iff_ne, ne_eq, bne_iff_ne, bne_eq_false_iff_eq, decide_eq_true_eq, decide_eq_false_iff_not] at *
            rw [HQ.out, show (f[i].pages[k].state == 1 && f[i].pages[k].r.seq == n) = true from by simp [*]] at hr
            exact ⟨by rw [← hr]; simp, ext_refl _⟩
          all_goals
            have hr := HR.out
            try simp only [beq_iff_eq, Bool.not_eq_true, beq_eq_false_iff_ne, ne_eq, bne_iff_ne, bne_eq_false_iff_eq, decide_eq_true_eq, decide_eq_false_iff_not] at *
            rw [HQ.out, show (f[i].pages[k].state == 1 && f[i].pages[k].r.seq == n) = false from by simp [*], Bool.false_or] at hr
            exact ⟨⟨k + 1, by omega, by go_num, Lib.hid hr⟩, by simp [intOf]; omega⟩
        · obtain rfl : k = f[i].pages.length := by omega
          rw [List.drop_length, List.any_nil, Bool.false_or] at HR
          go_wp2
          exact ⟨⟨i + 1, by omega, by go_num, HR⟩, by simp [intOf]; omega⟩
    · obtain rfl : i = f.length := by omega
      rw [List.drop_length, List.any_nil] at HR
      have hr := HR.out
      subst hr
      go_wp2
      go_ret
      exact ⟨rfl, ext_refl _⟩

def blank (st : Int) : Page := ⟨st, rec0⟩
def tornSt (torn : Bool) : Int := if torn then 2 else 0
def wipeF (f : List Block) (i : Nat) (torn : Bool) : List Block :=
  if 200 ≤ (blockAt f i).worn then f else f.set i ⟨List.replicate 4 (blank (tornSt torn)), (blockAt f i).worn + 1⟩
def wipeOk (f : List Block) (i : Nat) : Bool := !decide (200 ≤ (blockAt f i).worn)

theorem blockAt_get {f : List Block} {i : Nat} (h : i < f.length) : blockAt f i = f[i] := by unfold blockAt; rw [List.getElem?_eq_getElem h]; rfl

/-- what a call leaves that writes into its own store in place -/
def RetF (c : SC) (w : World) (v : Value) (f : List Block) (e : Ending) (w' : World) : Prop := e = .returned v ∧ Chg c.fl w w' ∧ FlashAt c w' f

theorem Chg.alloc' {L : List Nat} {a b : World} (h : Chg L a b) (o : Obj) : Chg L a (b.alloc o) := h.alloc o
theorem FlashAt.ext {c : SC} {w w' : World} {f : List Block} (h : FlashAt c w f) (hx : Ext w w') : FlashAt c w' f := h.keep fun b hb => hx.block b (h.lt b hb)

theorem rep_set (x : Page) (ps : List Page) (k : Nat) (h : ps.length = 4) (hk : k < 4) : (List.replicate k x ++ ps.drop k).set k x = List.replicate (k + 1) x ++ ps.drop (k + 1) := by
  rw [List.set_append, if_neg (by simp), List.length_replicate, Nat.sub_self, List.drop_eq_getElem_cons (by omega), List.set_cons_zero, List.replicate_succ', List.append_assoc]; rfl

set_option maxRecDepth 20000 in
set_option maxHeartbeats 2000000 in
theorem l2Wipe_c (c : SC) (f : List Block) (i : Nat) (torn : Bool) (w : World) (h : FlashAt c w f) (hnd : c.fl.Nodup) (hi : i < f.length) (h4 : f[i].pages.length = 4) (hw : 0 ≤ f[i].worn ∧ f[i].worn ≤ 1000) (hn : f.length ≤ 1048576) :
    Calls Try.prog 121 #[c.F.v f.length, .int .i64 i, .bool torn] w (RetF c w (.tuple #[c.F.v f.length, .bool (wipeOk f i)]) (wipeF f i torn)) := by
  obtain ⟨hw0, hw1⟩ := hw
  have hip : i < c.ps.length := by rw [h.len]; exact hi
  obtain ⟨p, hp⟩ : ∃ p, c.ps[i]? = some p := ⟨_, List.getElem?_eq_getElem hip⟩
  obtain ⟨t0, t1⟩ := h.two hi hp
  have hfz := h.row.frozen
  have hq : wipeF f i torn = if 200 ≤ f[i].worn then f else f.set i ⟨List.replicate 4 (blank (tornSt torn)), f[i].worn + 1⟩ := by unfold wipeF; rw [blockAt_get hi]
  have hq2 : wipeOk f i = !decide (200 ≤ f[i].worn) := by unfold wipeOk; rw [blockAt_get hi]
  have HQ := Lib.hid hq; have HQ2 := Lib.hid hq2; have HP := Lib.hid hp; have H4 := Lib.hid h4
  clear hq hq2 hp h4
  by_cases hw2 : 200 ≤ f[i].worn
  · go_enter Try.func121, Try.ntmps121
    go_wp2_with fail
    go_ret2
    rw [HQ2.out, HQ.out, if_pos hw2]
    exact ⟨by simp [hw2], Chg.refl _ _, h⟩
  · have hF1 := h.worn hnd hi HP.out (f[i].worn + 1)
    have HF1 := Lib.hid hF1; clear hF1
    have hC1 : Chg c.fl w (w.setCell ⟨c.F.b, c.F.o + i * 2 + 1, none⟩ (.int .i64 (f[i].worn + 1))) := (Chg.refl _ _).set (.inl (by simp [SC.fl])) _
    have hgi : ∀ x : Block, (f.set i x)[i]? = some x := fun x => List.getElem?_set_self hi
    have HGI := Lib.hid hgi; clear hgi
    have hpl : p.b ∈ c.fl := List.mem_cons_of_mem _ (List.mem_map.2 ⟨p, List.mem_of_getElem? HP.out, rfl⟩)
    cases torn
    all_goals
      go_enter Try.func121, Try.ntmps121
      go_wp2_with fail
    · go_loopw [9] (fun y wr => ∃ (k : Nat), k ≤ 4 ∧ y = .int .i64 k ∧ Chg c.fl w wr ∧ FlashAt c wr (f.set i ⟨List.replicate k (blank (tornSt false)) ++ f[i].pages.drop k, f[i].worn + 1⟩)) (fun y _ => 4 - (intOf y).toNat)
      case atStart => exact ⟨0, by omega, rfl, hC1, by simpa using HF1.out⟩
      case round =>
        clear hC1 t0 t1 hfz
        obtain ⟨k, hk, rfl, hC, hF⟩ := hrel
        have hln : (List.replicate k (blank (tornSt false)) ++ f[i].pages.drop k).length = 4 := by have := H4.out; simp; omega
        obtain ⟨t0, t1⟩ := hF.two' (HGI.out _) HP.out
        simp only [hln] at t0
        have HLN := Lib.hid hln; clear hln
        by_cases hlt : k < 4
        · have hth := hF.there (HGI.out _) HP.out (k := k) (Nat.lt_of_lt_of_eq hlt HLN.out.symm)
          have hF2 := hF.page' hnd (HGI.out _) HP.out (k := k) (Nat.lt_of_lt_of_eq hlt HLN.out.symm) (blank (tornSt false))
          rw [rep_set _ _ _ H4.out hlt, List.set_set] at hF2
          have hC2 := setAll_chg (o := p.o + k * 5) hC hpl (pageC (blank (tornSt false)))
          have HF2 := Lib.hid hF2; have HC2 := Lib.hid hC2; clear hF2 hC2 hF hC
          go_wp2_with (refine wpList_store_mid rfl 99 _ _ rfl p.b (p.o + k * 5) (pageC (blank (tornSt false))).toArray rfl rfl hth (by kernel_rfl) (by simp [Value.oneCell', blank]) ?_; change wpList _ _ _ _ _ (setAll wr p.b (p.o + k * 5) (pageC (blank (tornSt false)))); generalize setAll wr p.b (p.o + k * 5) (pageC (blank (tornSt false))) = w2 at *)
          exact ⟨⟨k + 1, by omega, by go_num, HC2.out, HF2.out⟩, by simp [intOf]; omega⟩
        · obtain rfl : k = 4 := by omega
          have hF2 := hF
          rw [List.drop_eq_nil_of_le (by have := H4.out; omega), List.append_nil] at hF2
          have HF2 := Lib.hid hF2; clear hF2 hF
          go_wp2_with fail
          go_ret2
          rw [HQ2.out, HQ.out, if_neg (by omega)]
          exact ⟨by simp; omega, hC, HF2.out⟩
    · go_loopw [9] (fun y wr => ∃ (k : Nat), k ≤ 4 ∧ y = .int .i64 k ∧ Chg c.fl w wr ∧ FlashAt c wr (f.set i ⟨List.replicate k (blank (tornSt true)) ++ f[i].pages.drop k, f[i].worn + 1⟩)) (fun y _ => 4 - (intOf y).toNat)
      case atStart => exact ⟨0, by omega, rfl, hC1, by simpa using HF1.out⟩
      case round =>
        clear hC1 t0 t1 hfz
        obtain ⟨k, hk, rfl, hC, hF⟩ := hrel
        have hln : (List.replicate k (blank (tornSt true)) ++ f[i].pages.drop k).length = 4 := by have := H4.out; simp; omega
        obtain ⟨t0, t1⟩ := hF.two' (HGI.out _) HP.out
        simp only [hln] at t0
        have HLN := Lib.hid hln; clear hln
        by_cases hlt : k < 4
        · have hth := hF.there (HGI.out _) HP.out (k := k) (Nat.lt_of_lt_of_eq hlt HLN.out.symm)
          have hF2 := hF.page' hnd (HGI.out _) HP.out (k := k) (Nat.lt_of_lt_of_eq hlt HLN.out.symm) (blank (tornSt true))
          rw [rep_set _ _ _ H4.out hlt, List.set_set] at hF2
          have hC2 := setAll_chg (o := p.o + k * 5) hC hpl (pageC (blank (tornSt true)))
          have HF2 := Lib.hid hF2; have HC2 := Lib.hid hC2; clear hF2 hC2 hF hC
          go_wp2_with (refine wpList_store_mid rfl 99 _ _ rfl p.b (p.o + k * 5) (pageC (blank (tornSt true))).toArray rfl rfl hth (by kernel_rfl) (by simp [Value.oneCell', blank]) ?_; change wpList _ _ _ _ _ (setAll wr p.b (p.o + k * 5) (pageC (blank (tornSt true)))); generalize setAll wr p.b (p.o + k * 5) (pageC (blank (tornSt true))) = w2 at *)
          exact ⟨⟨k + 1, by omega, by go_num, HC2.out, HF2.out⟩, by simp [intOf]; omega⟩
        · obtain rfl : k = 4 := by omega
          have hF2 := hF
          rw [List.drop_eq_nil_of_le (by have := H4.out; omega), List.append_nil] at hF2
          have HF2 := Lib.hid hF2; clear hF2 hF
          go_wp2_with fail
          go_ret2
          rw [HQ2.out, HQ.out, if_neg (by omega)]
          exact ⟨by simp; omega, hC, HF2.out⟩

theorem cleanN_bd : ∀ (ps : List Page) (n : Int), n ≤ ps.foldl cleanStep n ∧ ps.foldl cleanStep n ≤ n + ps.length
  | [], n => by simp
  | p :: ps, n => by
    have := cleanN_bd ps (cleanStep n p)
    simp only [List.foldl_cons, List.length_cons]
    have h1 : n ≤ cleanStep n p ∧ cleanStep n p ≤ n + 1 := by unfold cleanStep; split <;> omega
    omega

def pageW (r : Rec) (torn : Bool) : Page := if torn then ⟨2, rec0⟩ else ⟨1, r⟩
def writeOk (f : List Block) (i : Nat) (r : Rec) : Bool := !(decide (cleanN (blockAt f i).pages = 0) || seqUsed f r.seq)
def writeF (f : List Block) (i : Nat) (r : Rec) (torn : Bool) : List Block :=
  if writeOk f i r then f.set i ⟨(blockAt f i).pages.set (4 - (cleanN (blockAt f i).pages).toNat) (pageW r torn), (blockAt f i).worn⟩ else f

set_option maxRecDepth 20000 in
set_option maxHeartbeats 2000000 in
theorem l2Write_c (c : SC) (f : List Block) (i : Nat) (r : Rec) (torn : Bool) (w : World) (h : FlashAt c w f) (hnd : c.fl.Nodup) (hi : i < f.length) (h4 : ∀ b ∈ f, b.pages.length = 4) (hn : f.length ≤ 1048576) :
    Calls Try.prog 122 #[c.F.v f.length, .int .i64 i, recA r, .bool torn] w (RetF c w (.tuple #[c.F.v f.length, .bool (writeOk f i r)]) (writeF f i r torn)) := by
  have hip : i < c.ps.length := by rw [h.len]; exact hi
  obtain ⟨p, hp⟩ : ∃ p, c.ps[i]? = some p := ⟨_, List.getElem?_eq_getElem hip⟩
  obtain ⟨t0, t1⟩ := h.two hi hp
  have hq : writeF f i r torn = if writeOk f i r then f.set i ⟨f[i].pages.set (4 - (cleanN f[i].pages).toNat) (pageW r torn), f[i].worn⟩ else f := by unfold writeF; rw [blockAt_get hi]
  have hq2 : writeOk f i r = !(decide (cleanN f[i].pages = 0) || seqUsed f r.seq) := by unfold writeOk; rw [blockAt_get hi]
  have hcb := cleanN_bd f[i].pages 0
  have h4i := h4 f[i] (List.getElem_mem _)
  have HPB := Lib.hid (fun (b : Block) (hb : b ∈ f) => (show b.pages.length ≤ 1048576 from by have := h4 b hb; omega))
  have hcl : ∀ w', Ext w w' → Calls Try.prog 96 #[.agg #[p.v f[i].pages.length, .int .i64 f[i].worn]] w' (Ret w' (.int .i64 (cleanN f[i].pages))) := fun w' hx =>
    l2Clean_c _ f[i].pages f[i].worn w' (((h.pages i f[i] p (List.getElem?_eq_getElem hi) hp).ext hx).of ((h.pages i f[i] p (List.getElem?_eq_getElem hi) hp).ext hx).lt _) (by omega)
  have hsq : ∀ w', Ext w w' → Calls Try.prog 129 #[c.F.v f.length, .int .i64 r.seq] w' (Ret w' (.bool (seqUsed f r.seq))) := fun w' hx =>
    l2Seq_c _ f r.seq w' (h.ext hx).flash hn HPB.out
  have hb0 : c.F.b < w.heap.size := h.lt _ (by simp [SC.fl])
  obtain ⟨m, hm⟩ : ∃ m : Nat, cleanN f[i].pages = m := ⟨(cleanN f[i].pages).toNat, by unfold cleanN; omega⟩
  have hm4 : m ≤ 4 := by unfold cleanN at hm; omega
  rw [hm] at hq hq2 hcl
  generalize hsu : seqUsed f r.seq = su at *
  have HQ := Lib.hid hq; have HQ2 := Lib.hid hq2; have HP := Lib.hid hp; have H4 := Lib.hid h4i; have HC := Lib.hid hcl; have HS := Lib.hid hsq
  clear hq hq2 hp h4 h4i hcl hsq hcb hm hsu hip
  by_cases hm0 : m = 0
  · subst hm0
    go_enter Try.func122, Try.ntmps122
    go_wp2_with fail
    refine (HC.out _ (ext_alloc (ext_refl _) _)).mono ?_; rintro e1 w1 ⟨rfl, hx1⟩
    obtain ⟨hc1, hf1, hz1, X1⟩ := after1 hx1
    go_wp2_with fail
    go_ret2
    have hf : writeOk f i r = false := by rw [HQ2.out]; simp
    rw [HQ.out, hf]
    exact ⟨rfl, Chg.of_ext X1, h.ext X1⟩
  · have hmf : (((m : Nat) : Int) == 0) = false := by simp; omega
    cases su with
    | true =>
      go_enter Try.func122, Try.ntmps122
      go_wp2_with fail
      refine (HC.out _ (ext_alloc (ext_refl _) _)).mono ?_; rintro e1 w1 ⟨rfl, hx1⟩
      obtain ⟨hc1, hf1, hz1, X1⟩ := after1 hx1
      go_wp2_with fail
      refine (HS.out _ X1).mono ?_; rintro e2 w2 ⟨rfl, hx2⟩
      go_wp2_with fail
      go_ret2
      have X2 := ext_trans X1 hx2
      have hf : writeOk f i r = false := by rw [HQ2.out]; simp
      rw [HQ.out, hf]
      exact ⟨rfl, Chg.of_ext X2, h.ext X2⟩
    | false =>
      have hf : writeOk f i r = true := by rw [HQ2.out]; simp; omega
      rw [HQ.out, hf, if_pos rfl, Int.toNat_natCast]
      have hkl : 4 - m < f[i].pages.length := by have := H4.out; omega
      have hk4 : ((4 : Int) - (m : Int)) = ((4 - m : Nat) : Int) := by omega
      generalize 4 - m = k at *
      have HK4 := Lib.hid hk4
      have hkw : IntKind.i64.wrap ((4 : Int) - (m : Int)) = (k : Int) := by rw [HK4.out]; exact IntWalk.i64_in _ (by have := H4.out; omega)
      have hk5 : (k : Int) < 4 := by have := H4.out; omega
      have HKW := Lib.hid hkw
      clear hf hk4 hkw
      have hpl : p.b ∈ c.fl := List.mem_cons_of_mem _ (List.mem_map.2 ⟨p, List.mem_of_getElem? HP.out, rfl⟩)
      cases torn
      all_goals
        go_enter Try.func122, Try.ntmps122
        go_wp2_with fail
        refine (HC.out _ (ext_alloc (ext_refl _) _)).mono ?_; rintro e1 w1 ⟨rfl, hx1⟩
        obtain ⟨hc1, hf1, hz1, X1⟩ := after1 hx1
        have G0 := keep_ext hx1 (hg_new (b := w.heap.size) rfl)
        go_wp2_with fail
        refine (HS.out _ X1).mono ?_; rintro e2 w2 ⟨rfl, hx2⟩
        have X2 := ext_trans X1 hx2
        replace G0 := keep_ext hx2 G0
        obtain ⟨g0, gf0⟩ := cellsK G0
        have l0 := heap_lt G0
        have h2 := h.ext X2
        obtain ⟨t2, t3⟩ := h2.two hi HP.out
        have hb2 : c.F.b < w2.heap.size := Nat.lt_of_lt_of_le hb0 X2.size
        rw [H4.out] at t2
        have H2 := Lib.hid h2
        clear hc1 hf1 t0 t1 h2
        have hkw := HKW.out
        go_wp2_with fail
      · skip
        refine wp_region_ext [] [0, 1, 2, 3, 4, 5, 6, 7, 8] [] [9] (by kernel_rfl) (by kernel_rfl) ?late ?_
        case late => exact fun f hf => absurd hf List.not_mem_nil
        iterate 2
          refine Rob.y (v := ?_) rfl rfl (fun w1 hx hH => ?_) ?_; rotate_left
          · go_simp; first | done | rfl | exact (Bool.not_not _).symm
          simp only [Act.put, List.setIfInBounds_toArray, List.set_cons_succ, List.set_cons_zero]
        refine Rob.y (v := ?_) rfl rfl (fun w1 hx hH => ?_) ?_; rotate_left
        · (obtain ⟨hcx, hfx⟩ := bcell hx); go_simp; first | done | rfl
        simp only [Act.put, List.setIfInBounds_toArray, List.set_cons_succ, List.set_cons_zero]
        refine Rob.y (v := ?_) rfl rfl (fun w1 hx hH => ?_) ?_; rotate_left
        · go_simp; first | done | rfl | exact (Bool.not_not _).symm
        simp only [Act.put, List.setIfInBounds_toArray, List.set_cons_succ, List.set_cons_zero]
        refine Rob.y (v := ?_) rfl rfl (fun w1 hx hH => ?_) ?_; rotate_left
        · (obtain ⟨hcx, hfx⟩ := bcell hx); go_simp; first | done | rfl
        simp only [Act.put, List.setIfInBounds_toArray, List.set_cons_succ, List.set_cons_zero]
        iterate 2
          refine Rob.y (v := ?_) rfl rfl (fun w1 hx hH => ?_) ?_; rotate_left
          · go_simp; first | done | rfl | exact (Bool.not_not _).symm
          simp only [Act.put, List.setIfInBounds_toArray, List.set_cons_succ, List.set_cons_zero]
        iterate 2
          refine Rob.y (v := ?_) rfl rfl (fun w1 hx hH => ?_) ?_; rotate_left
          · (obtain ⟨hcx, hfx⟩ := bcell hx); go_simp; first | done | rfl
          simp only [Act.put, List.setIfInBounds_toArray, List.set_cons_succ, List.set_cons_zero]
        refine fin_tail (fun w3 hx3 _ => ?_)
        simp only [dstOf, List.getElem?_cons_succ, List.getElem?_cons_zero, Option.bind_some, Act.put, List.setIfInBounds_toArray, List.set_cons_succ, List.set_cons_zero, List.filterMap_cons, List.filterMap_nil]
        have X3 : Ext w w3 := ext_trans (ext_trans X2 (by go_grown)) hx3
        have h3 := h.ext X3
        have hth := h3.there (List.getElem?_eq_getElem hi) HP.out hkl
        have hF := h3.page' hnd (List.getElem?_eq_getElem hi) HP.out hkl (pageW r false)
        have hC := setAll_chg (o := p.o + k * 5) (Chg.of_ext X3) hpl (pageC (pageW r false))
        have HF := Lib.hid hF; have HC3 := Lib.hid hC; clear hF hC h3
        refine wpList_store_mid rfl 99 _ _ rfl p.b (p.o + k * 5) (pageC (pageW r false)).toArray rfl rfl hth (by kernel_rfl) (by simp [Value.oneCell', pageW]) ?_
        · refine wpList_nil ?_
          change Exit.then _ _ _ _ (setAll w3 p.b (p.o + k * 5) (pageC (pageW r false)))
          generalize setAll w3 p.b (p.o + k * 5) (pageC (pageW r false)) = w4 at *
          go_wp2_with fail
          go_ret2
          exact ⟨rfl, HC3.out, HF.out⟩
      · skip
        refine wp_region_ext [] [0, 1, 2, 3, 4, 5, 6, 7, 8] [] [9] (by kernel_rfl) (by kernel_rfl) ?late ?_
        case late => exact fun f hf => absurd hf List.not_mem_nil
        iterate 2
          refine Rob.y (v := ?_) rfl rfl (fun w1 hx hH => ?_) ?_; rotate_left
          · go_simp; first | done | rfl | exact (Bool.not_not _).symm
          simp only [Act.put, List.setIfInBounds_toArray, List.set_cons_succ, List.set_cons_zero]
        refine Rob.y (v := ?_) rfl rfl (fun w1 hx hH => ?_) ?_; rotate_left
        · (obtain ⟨hcx, hfx⟩ := bcell hx); go_simp; first | done | rfl
        simp only [Act.put, List.setIfInBounds_toArray, List.set_cons_succ, List.set_cons_zero]
        refine Rob.y (v := ?_) rfl rfl (fun w1 hx hH => ?_) ?_; rotate_left
        · go_simp; first | done | rfl | exact (Bool.not_not _).symm
        simp only [Act.put, List.setIfInBounds_toArray, List.set_cons_succ, List.set_cons_zero]
        refine Rob.y (v := ?_) rfl rfl (fun w1 hx hH => ?_) ?_; rotate_left
        · (obtain ⟨hcx, hfx⟩ := bcell hx); go_simp; first | done | rfl
        simp only [Act.put, List.setIfInBounds_toArray, List.set_cons_succ, List.set_cons_zero]
        iterate 2
          refine Rob.y (v := ?_) rfl rfl (fun w1 hx hH => ?_) ?_; rotate_left
          · go_simp; first | done | rfl | exact (Bool.not_not _).symm
          simp only [Act.put, List.setIfInBounds_toArray, List.set_cons_succ, List.set_cons_zero]
        iterate 2
          refine Rob.y (v := ?_) rfl rfl (fun w1 hx hH => ?_) ?_; rotate_left
          · (obtain ⟨hcx, hfx⟩ := bcell hx); go_simp; first | done | rfl
          simp only [Act.put, List.setIfInBounds_toArray, List.set_cons_succ, List.set_cons_zero]
        refine fin_tail (fun w3 hx3 _ => ?_)
        simp only [dstOf, List.getElem?_cons_succ, List.getElem?_cons_zero, Option.bind_some, Act.put, List.setIfInBounds_toArray, List.set_cons_succ, List.set_cons_zero, List.filterMap_cons, List.filterMap_nil]
        have X3 : Ext w w3 := ext_trans (ext_trans X2 (by go_grown)) hx3
        have h3 := h.ext X3
        have hth := h3.there (List.getElem?_eq_getElem hi) HP.out hkl
        have hF := h3.page' hnd (List.getElem?_eq_getElem hi) HP.out hkl (pageW r true)
        have hC := setAll_chg (o := p.o + k * 5) (Chg.of_ext X3) hpl (pageC (pageW r true))
        have HF := Lib.hid hF; have HC3 := Lib.hid hC; clear hF hC h3
        refine wpList_store_mid rfl 99 _ _ rfl p.b (p.o + k * 5) (pageC (pageW r true)).toArray rfl rfl hth (by kernel_rfl) (by simp [Value.oneCell', pageW]) ?_
        · refine wpList_nil ?_
          change Exit.then _ _ _ _ (setAll w3 p.b (p.o + k * 5) (pageC (pageW r true)))
          generalize setAll w3 p.b (p.o + k * 5) (pageC (pageW r true)) = w4 at *
          go_wp2_with fail
          go_ret2
          exact ⟨rfl, HC3.out, HF.out⟩

/-- four blocks of four pages, six values -/
structure Shape (s : Store) : Prop where
  flash : s.flash.length = 4
  pages : ∀ b ∈ s.flash, b.pages.length = 4
  worn : ∀ b ∈ s.flash, 0 ≤ b.worn ∧ b.worn ≤ 1000
  disk : s.disk.length = 6
/-- a step that is about blocks and addresses that there are -/
structure Fit (x : Step) : Prop where
  addr : x.kind = 1 → 1 ≤ x.addr ∧ x.addr ≤ 6
  block : x.kind ≠ 1 → 0 ≤ x.block ∧ x.block ≤ 3

def doStep (s : Store) (x : Step) (torn : Bool) : Store :=
  if x.kind = 1 then (if torn then s else ⟨s.flash, s.disk.set (x.addr - 1).toNat x.val⟩) else if x.kind = 2 then ⟨wipeF s.flash x.block.toNat torn, s.disk⟩ else if x.kind = 3 then ⟨writeF s.flash x.block.toNat x.r torn, s.disk⟩ else s

theorem wipeF_len (f : List Block) (i : Nat) (t : Bool) : (wipeF f i t).length = f.length := by unfold wipeF; split <;> simp
theorem writeF_len (f : List Block) (i : Nat) (r : Rec) (t : Bool) : (writeF f i r t).length = f.length := by unfold writeF; split <;> simp
theorem doStep_len (s : Store) (x : Step) (t : Bool) : (doStep s x t).flash.length = s.flash.length ∧ (doStep s x t).disk.length = s.disk.length := by
  unfold doStep; (repeat' split) <;> simp [wipeF_len, writeF_len]

/-- what a call leaves that writes into its own store in place, and hands it back -/
def RetO (c : SC) (w : World) (s : Store) (e : Ending) (w' : World) : Prop := e = .returned (.agg #[c.fv s, c.dv s]) ∧ Chg c.L w w' ∧ OwnS c w' s
theorem fl_L {c : SC} : ∀ b ∈ c.fl, b ∈ c.L := fun b hb => List.mem_append_left _ hb

set_option maxRecDepth 20000 in
set_option maxHeartbeats 2000000 in
theorem l12Do_c (c : SC) (s : Store) (x : Step) (torn : Bool) (w : World) (h : OwnS c w s) (hs : Shape s) (hf : Fit x) :
    Calls Try.prog 109 #[.agg #[c.fv s, c.dv s], stepA x, .bool torn] w (RetO c w (doStep s x torn)) := by
  have hlt := h.lt
  have HLT := Lib.hid hlt; clear hlt
  obtain ⟨hl1, hl2⟩ := doStep_len s x torn
  have HL1 := Lib.hid hl1; have HL2 := Lib.hid hl2; clear hl1 hl2
  have hD : c.D.b < w.heap.size := HLT.out _ (by simp [SC.L])
  have hfl := SC.fl_nd h.nd
  obtain ⟨k, addr, val, block, r⟩ := x
  have HS := Lib.hid hs; have HF := Lib.hid hf; clear hs hf
  by_cases h1 : k = 1
  · subst h1
    obtain ⟨n, rfl, hn6⟩ : ∃ n : Nat, addr = (n : Int) + 1 ∧ n < 6 := ⟨(addr - 1).toNat, by have := HF.out.addr rfl; dsimp only at this; omega, by have := HF.out.addr rfl; dsimp only at this; omega⟩
    cases torn with
    | true =>
      have hq : doStep s ⟨1, (n : Int) + 1, val, block, r⟩ true = s := rfl
      rw [hq]
      go_enter Try.func109, Try.ntmps109
      go_wp2_with fail
      refine bodyPost_ret (v := .agg #[c.fv s, c.dv s]) (by simp [results, Try.results109, go_sem]) rfl ⟨rfl, ?_, ?_⟩
      · exact Chg.of_ext (by go_grown)
      · exact h.ext (by go_grown)
    | false =>
      have hq : doStep s ⟨1, (n : Int) + 1, val, block, r⟩ false = ⟨s.flash, s.disk.set n val⟩ := by simp [doStep]
      rw [hq] at HL2 ⊢
      have hnd : n < s.disk.length := by rw [HS.out.disk]; exact hn6
      have hcell := h.disk.one hnd
      have hfz := h.disk.frozen
      have hS1 : OwnS c (w.setCell ⟨c.D.b, c.D.o + n, none⟩ (.int .i64 val)) ⟨s.flash, s.disk.set n val⟩ := by
        refine ⟨h.flash.keep fun b hb => Below.heap_setCell _ _ _ _ (SC.D_ne h.nd b hb), ?_, h.nd⟩
        have := OwnAt.set1 (n := 1) (enc := intC) (fun _ => rfl) h.disk hnd (j := 0) (by omega) (.int .i64 val) val rfl
        simpa using this
      have HS1 := Lib.hid hS1; clear hS1 hq
      have n0 : ¬ w.heap.size = c.D.b := by omega
      have n1 : ¬ w.heap.size + 1 = c.D.b := by omega
      have n2 : ¬ w.heap.size + 1 + 1 = c.D.b := by omega
      have hD1 : c.D.b < w.heap.size + 1 := by omega
      have hD2 : c.D.b < w.heap.size + 1 + 1 := by omega
      have hc1 : Chg c.L w (w.setCell ⟨c.D.b, c.D.o + n, none⟩ (.int .i64 val)) := (Chg.refl _ _).set (.inl (by simp [SC.L])) _
      have HC1 := Lib.hid hc1; clear hc1
      go_enter Try.func109, Try.ntmps109
      go_wp2_with fail
      refine bodyPost_ret (v := .agg #[c.fv s, c.dv s]) (by simp [results, Try.results109, go_sem]) rfl ⟨by simp [SC.dv], ?_, ?_⟩
      · exact ((HC1.out.alloc _).alloc _).alloc _
      · exact ((HS1.out.alloc2).alloc2).alloc2
  have hnb := h.new
  have HNB := Lib.hid hnb; clear hnb
  by_cases h2 : k = 2
  · subst h2
    obtain ⟨n, rfl, hn4⟩ : ∃ n : Nat, block = n ∧ n < 4 := ⟨block.toNat, by have := HF.out.block (by simp); dsimp only at this; omega, by have := HF.out.block (by simp); dsimp only at this; omega⟩
    have hi : n < s.flash.length := by rw [HS.out.flash]; exact hn4
    have hq : doStep s ⟨2, addr, val, n, r⟩ torn = ⟨wipeF s.flash n torn, s.disk⟩ := by simp [doStep]
    rw [hq] at HL1 ⊢
    have hns : s.flash.length ≤ 1048576 := by have := HS.out.flash; omega
    have HNS := Lib.hid hns; have HI := Lib.hid hi; clear hq hns hi
    have nfl : ∀ b, w.heap.size ≤ b → b ∉ c.fl := fun b hb hm => HNB.out b hb (fl_L b hm)
    have NFL := Lib.hid nfl; clear nfl
    go_enter Try.func109, Try.ntmps109
    go_wp2_with fail
    refine (l2Wipe_c c s.flash n torn _ ((h.ext (by go_grown)).flash) hfl HI.out (HS.out.pages _ (List.getElem_mem _)) (HS.out.worn _ (List.getElem_mem _)) HNS.out).mono ?_; rintro e1 w1 ⟨rfl, hC, hF1⟩
    have G0 := hC.keep (hg_alloc (hg_alloc (hg_new (b := w.heap.size) rfl))) (NFL.out _ (by omega))
    have G1 := hC.keep (hg_alloc (hg_new (b := w.heap.size + 1) (by simp))) (NFL.out _ (by omega))
    have G2 := hC.keep (hg_new (b := w.heap.size + 1 + 1) (by simp)) (NFL.out _ (by omega))
    have C1 : Chg c.L w w1 := Chg.trans (Chg.of_ext (by go_grown)) (hC.mono fl_L)
    have S1 : OwnS c w1 ⟨wipeF s.flash n torn, s.disk⟩ := ⟨hF1, (h.ext (by go_grown)).disk.chg hC (fun hm => SC.D_ne h.nd _ hm rfl), h.nd⟩
    have HS1 := Lib.hid S1; have HC1 := Lib.hid C1
    clear hC hF1 C1 S1
    obtain ⟨g0, gf0⟩ := cellsK G0
    obtain ⟨g1, gf1⟩ := cellsK G1
    obtain ⟨g2, gf2⟩ := cellsK G2
    have hl1 := HL1.out
    have LN := Lib.hid hl1; clear hl1
    go_wp2_with fail
    refine bodyPost_ret (v := .agg #[c.fv s, c.dv s]) (by simp [results, Try.results109, go_sem, g0, gf0, g1, gf1, g2, gf2]) rfl ⟨by simp [SC.fv, wipeF_len], ?_, ?_⟩
    · have hc := HC1.out
      ((repeat (first | with_reducible (refine Chg.set2 ?_ ?_); focus (exact Or.inr (by dsimp only; omega)) | with_reducible refine Chg.alloc2 ?_)); with_reducible exact hc)
    · have ho := HS1.out
      ((repeat (first | (with_reducible apply OwnS.set2; focus (exact HNB.out _ (by dsimp only; omega))) | with_reducible apply OwnS.alloc2)); with_reducible exact ho)
  by_cases h3 : k = 3
  · subst h3
    obtain ⟨n, rfl, hn4⟩ : ∃ n : Nat, block = n ∧ n < 4 := ⟨block.toNat, by have := HF.out.block (by simp); dsimp only at this; omega, by have := HF.out.block (by simp); dsimp only at this; omega⟩
    have hi : n < s.flash.length := by rw [HS.out.flash]; exact hn4
    have hq : doStep s ⟨3, addr, val, n, r⟩ torn = ⟨writeF s.flash n r torn, s.disk⟩ := by simp [doStep]
    rw [hq] at HL1 ⊢
    have hns : s.flash.length ≤ 1048576 := by have := HS.out.flash; omega
    have HNS := Lib.hid hns; have HI := Lib.hid hi; clear hq hns hi
    have nfl : ∀ b, w.heap.size ≤ b → b ∉ c.fl := fun b hb hm => HNB.out b hb (fl_L b hm)
    have NFL := Lib.hid nfl; clear nfl
    go_enter Try.func109, Try.ntmps109
    go_wp2_with fail
    refine (l2Write_c c s.flash n r torn _ ((h.ext (by go_grown)).flash) hfl HI.out HS.out.pages HNS.out).mono ?_; rintro e1 w1 ⟨rfl, hC, hF1⟩
    have G0 := hC.keep (hg_alloc (hg_alloc (hg_new (b := w.heap.size) rfl))) (NFL.out _ (by omega))
    have G1 := hC.keep (hg_alloc (hg_new (b := w.heap.size + 1) (by simp))) (NFL.out _ (by omega))
    have G2 := hC.keep (hg_new (b := w.heap.size + 1 + 1) (by simp)) (NFL.out _ (by omega))
    have C1 : Chg c.L w w1 := Chg.trans (Chg.of_ext (by go_grown)) (hC.mono fl_L)
    have S1 : OwnS c w1 ⟨writeF s.flash n r torn, s.disk⟩ := ⟨hF1, (h.ext (by go_grown)).disk.chg hC (fun hm => SC.D_ne h.nd _ hm rfl), h.nd⟩
    have HS1 := Lib.hid S1; have HC1 := Lib.hid C1
    clear hC hF1 C1 S1
    obtain ⟨g0, gf0⟩ := cellsK G0
    obtain ⟨g1, gf1⟩ := cellsK G1
    obtain ⟨g2, gf2⟩ := cellsK G2
    have hl1 := HL1.out
    have LN := Lib.hid hl1; clear hl1
    go_wp2_with fail
    refine bodyPost_ret (v := .agg #[c.fv s, c.dv s]) (by simp [results, Try.results109, go_sem, g0, gf0, g1, gf1, g2, gf2]) rfl ⟨by simp [SC.fv, writeF_len], ?_, ?_⟩
    · have hc := HC1.out
      ((repeat (first | with_reducible (refine Chg.set2 ?_ ?_); focus (exact Or.inr (by dsimp only; omega)) | with_reducible refine Chg.alloc2 ?_)); with_reducible exact hc)
    · have ho := HS1.out
      ((repeat (first | (with_reducible apply OwnS.set2; focus (exact HNB.out _ (by dsimp only; omega))) | with_reducible apply OwnS.alloc2)); with_reducible exact ho)
  · have hq : doStep s ⟨k, addr, val, block, r⟩ torn = s := by unfold doStep; rw [if_neg h1, if_neg h2, if_neg h3]
    rw [hq]; clear hq
    have b1 : (k == 1) = false := by simpa using h1
    have b2 : (k == 2) = false := by simpa using h2
    have b3 : (k == 3) = false := by simpa using h3
    clear h1 h2 h3
    go_enter Try.func109, Try.ntmps109
    go_wp2_with fail
    refine bodyPost_ret (v := .agg #[c.fv s, c.dv s]) (by simp [results, Try.results109, go_sem]) rfl ⟨rfl, ?_, ?_⟩
    · exact Chg.of_ext (by go_grown)
    · exact h.ext (by go_grown)
end Go.Bu

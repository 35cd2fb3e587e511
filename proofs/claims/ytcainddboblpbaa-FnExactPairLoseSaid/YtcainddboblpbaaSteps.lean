/- By which steps a record is written, as the reference says it: l12Room, l12Write, l12Flush, l12Fill, l21Steps, PlaySteps. -/
import Derived.Test.YtcainddboblpbaaStoreS
import Derived.Test.YtcainddboblpbaaRows2
import Derived.IntWalk
set_option linter.unusedVariables false
set_option linter.unusedSimpArgs false
namespace Go.Bu
open Go Go.RowKit Go.Plan Go.Proofs

/-- steps in a row that was made since base -/
abbrev SRow (base : Nat) (w : World) (v : Value) (xs : List Step) : Prop := w.ownsRow base 142 8 v xs.length (xs.flatMap stepC)

theorem SRow.nil (base : Nat) (w : World) : SRow base w (.slice none 0 0) [] := ⟨rfl, .inl ⟨rfl, rfl⟩⟩
theorem SRow.empty {base : Nat} {w : World} {B : Nat} (h : w.heap[B]? = some (.cells #[] 142 (0, 0))) (hb : base ≤ B) : SRow base w (.slice (some ⟨B, 0, none⟩) 0 0) [] := ⟨rfl, .inr ⟨B, 0, #[], rfl, hb, h, Nat.le_refl _, by simp, rfl, rfl⟩⟩
theorem SRow.one {base : Nat} {w : World} {B : Nat} {y : Step} (h : w.heap[B]? = some (.cells (stepC y).toArray 142 (0, 0))) (hb : base ≤ B) : SRow base w (.slice (some ⟨B, 0, none⟩) 1 1) [y] :=
  ⟨rfl, .inr ⟨B, 1, _, rfl, hb, h, Nat.le_refl _, by simp [maxLen], rfl, rfl⟩⟩
theorem SRow.ext {base : Nat} {w w' : World} {v : Value} {xs : List Step} (h : SRow base w v xs) (hx : Ext w w') : SRow base w' v xs := ownsRow_ext h hx
theorem SRow.form {base : Nat} {w : World} {v : Value} {xs : List Step} (h : SRow base w v xs) : ∃ a cap, v = .slice a xs.length cap := by
  obtain ⟨_, h2⟩ := h
  rcases h2 with ⟨rfl, h0⟩ | ⟨g, cap, cur, rfl, _⟩
  · exact ⟨none, 0, by rw [h0]⟩
  · exact ⟨_, cap, rfl⟩
theorem SRow.steps {base : Nat} {w : World} {v : Value} {xs : List Step} (h : SRow base w v xs) : Steps' (Old w) w v xs := by
  rcases h.2 with ⟨rfl, h0⟩ | ⟨g, cap, cur, rfl, _, hh, _, _, _, ht⟩
  · have : xs = [] := List.length_eq_zero_iff.1 h0
    subst this
    exact ⟨none, 0, rfl, fun i x hx => by simp at hx⟩
  · refine ⟨_, cap, rfl, fun i x hx => ⟨g, 0, stepC x, rfl, heap_lt hh, rfl, fun j u hu => ?_⟩⟩
    have := flat_get (enc := stepC) (n := 8) (fun _ => rfl) xs i x j u hx hu
    rw [← ht] at this
    have hlt := (List.getElem?_eq_some_iff.1 this).1
    rw [List.length_take] at hlt
    rw [List.getElem?_take_of_lt (by omega)] at this
    rw [cell_block hh, Nat.zero_add]
    simpa using this

/-- a block of another type stays as it is behind an append -/
theorem keep_grown {w w' : World} {b base size m : Nat} {c : Array Value} {T e : TypeId} {fr : Nat × Nat} {u : Value} {ys : List Value} (h : w.heap[b]? = some (.cells c T fr)) (hT : T ≠ e) (hu : w.ownsRow base e size u m ys) (hg : w.grownBy w' u.ownBlock) : w'.heap[b]? = some (.cells c T fr) := by
  rw [hg.block b (heap_lt h) ?_]; exact h
  intro hB
  rcases hu.2 with ⟨rfl, _⟩ | ⟨g, cap, cur, rfl, _, hh, _⟩
  · simp [Value.ownBlock] at hB
  · simp [Value.ownBlock] at hB
    subst hB
    rw [hh] at h
    simp at h
    exact hT h.2.1.symm

/-- append of one step -/
theorem wpList_appStep {w : World} {ops : Array Oper} {rest : List Oper} {o : Oper} {a : Act} {Q : Exit → Act → World → Prop} (hgd : o.guard = none) (s x : Operand)
    (ho : o.op = .call { callee := .builtin .append, args := #[s, x], argTypes := #[118, 118] }) {base : Nat} {v : Value} {xs : List Step} (hs : a.eval s = v) (hown : SRow base w v xs)
    {B : Nat} {y : Step} (hx : a.eval x = .slice (some ⟨B, 0, none⟩) 1 1) (hB : w.heap[B]? = some (.cells (stepC y).toArray 142 (0, 0))) (hlen : xs.length ≤ 1000000) (hbase : base ≤ w.heap.size)
    (h : ∀ v' w', SRow base w' v' (xs ++ [y]) → w.grownBy w' v.ownBlock → wpList Try.prog ops Q rest (a.put o.dst v') w') : wpList Try.prog ops Q (o :: rest) a w := by
  refine wpList_app hgd s x 118 ho base 142 8 64 Try.underlying118 (by kernel_rfl) (by omega) v xs.length (xs.flatMap stepC) hs hown ⟨B, 0, none⟩ 1 1 (stepC y) hx rfl (fun j u hu => ?_) (by simp [Value.oneCell']) (by simp [maxLen]; omega) (by omega) hbase (fun v' w' h1 h2 => h v' w' ?_ h2)
  · rw [Addr.add_mid, cell_block hB, Nat.zero_add]; simpa using hu
  · show w'.ownsRow _ _ _ _ _ _
    rw [List.length_append, List.flatMap_append]; simpa using h1

/-- append of a row of steps to another one -/
theorem wpList_appSteps {w : World} {ops : Array Oper} {rest : List Oper} {o : Oper} {a : Act} {Q : Exit → Act → World → Prop} (hgd : o.guard = none) (s x : Operand)
    (ho : o.op = .call { callee := .builtin .append, args := #[s, x], argTypes := #[118, 118] }) {base base2 : Nat} {v u : Value} {xs ys : List Step} (hs : a.eval s = v) (hown : SRow base w v xs)
    (hx : a.eval x = u) (hu : SRow base2 w u ys) (hne : ys ≠ []) (hlen : xs.length + ys.length ≤ 1000000) (hbase : base ≤ w.heap.size)
    (h : ∀ v' w', SRow base w' v' (xs ++ ys) → w.grownBy w' v.ownBlock → wpList Try.prog ops Q rest (a.put o.dst v') w') : wpList Try.prog ops Q (o :: rest) a w := by
  have hu2 := hu
  rcases hu.2 with ⟨rfl, h0⟩ | ⟨g, cap, cur, rfl, _, hh, _, _, _, ht⟩
  · exact absurd (List.length_eq_zero_iff.1 h0) hne
  refine wpList_app hgd s x 118 ho base 142 8 64 Try.underlying118 (by kernel_rfl) (by omega) v xs.length (xs.flatMap stepC) hs hown ⟨g, 0, none⟩ ys.length cap (ys.flatMap stepC) hx hu2.1 (hu2.cells rfl) (fun c hc => ?_) (by simp [maxLen]; omega) (by omega) hbase (fun v' w' h1 h2 => h v' w' ?_ h2)
  · obtain ⟨y, _, hy⟩ := List.mem_flatMap.1 hc
    simp at hy
    rcases hy with rfl | rfl | rfl | rfl | rfl | rfl | rfl | rfl <;> rfl
  · show w'.ownsRow _ _ _ _ _ _
    rw [List.length_append, List.flatMap_append]; exact h1

/-! ### the steps -/
def diskStepOf (p : Page) : Step := ⟨1, p.r.addr, p.r.val, 0, rec0⟩
def roomOne (f : List Block) (p : Page) : List Step := if liveP f p = true ∧ p.r.kind = 1 then [diskStepOf p] else []
def roomSteps (f : List Block) (ps : List Page) : List Step := ps.flatMap (roomOne f)
theorem roomSteps_drop (f : List Block) (ps : List Page) (k : Nat) (h : k < ps.length) : roomSteps f (ps.drop k) = roomOne f ps[k] ++ roomSteps f (ps.drop (k + 1)) := by
  rw [List.drop_eq_getElem_cons h]; rfl
def blockAt (f : List Block) (i : Nat) : Block := (f[i]?).getD ⟨[], 0⟩
def room (f : List Block) : List Step × Int × Bool :=
  if (openB f).2 then ([], (openB f).1, true) else (roomSteps f (blockAt f (old f)).pages ++ [⟨2, 0, 0, (old f : Int), rec0⟩], (old f : Int), decide ((blockAt f (old f)).worn < 200))
def writeSteps (f : List Block) (kind addr val : Int) : List Step :=
  if (room f).2.2 && recOkB ⟨kind, next f, addr, val⟩ then (room f).1 ++ [⟨3, 0, 0, (room f).2.1, ⟨kind, next f, addr, val⟩⟩] else []

theorem oldScan_lt (f : List Block) : ∀ (rest : List Block) (i out : Nat), out < f.length → i + rest.length ≤ f.length → oldScan f i out rest < f.length
  | [], _, out, h, _ => h
  | b :: rest, i, out, h, hl => by
    simp only [List.length_cons] at hl
    simp only [oldScan]
    refine oldScan_lt f rest _ _ ?_ (by omega)
    split <;> omega
theorem old_lt {f : List Block} (h : 0 < f.length) : old f < f.length := oldScan_lt f _ 1 0 h (by simp; omega)

set_option maxRecDepth 20000 in
set_option maxHeartbeats 2000000 in
theorem l12Room_c (fv dv : Value) (s : Store) (w : World) (h : StoreV w fv dv s) (hok : flashOkB s.flash = true) :
    Calls Try.prog 107 #[.agg #[fv, dv]] w (RetP w fun v w' => ∃ sv, v = .tuple #[sv, .int .i64 (room s.flash).2.1, .bool (room s.flash).2.2] ∧ SRow w.heap.size w' sv (room s.flash).1 ∧ (room s.flash).1.length ≤ 5) := by
  have hn : s.flash.length ≤ 1048576 := by have := flashOk_len hok; omega
  have HP := Lib.hid (pages_short hok)
  obtain ⟨hF, hD⟩ := h
  obtain ⟨fa, fc, rfl⟩ := hF.form
  obtain ⟨da, dc, rfl⟩ := hD.form
  have hol : old s.flash < s.flash.length := old_lt (by have := flashOk_len hok; omega)
  have hb4 : s.flash[old s.flash].pages.length = 4 := (flashOk_block hok (List.getElem_mem _)).1
  have hR : room s.flash = if (openB s.flash).2 then ([], (openB s.flash).1, true) else (roomSteps s.flash s.flash[old s.flash].pages ++ [⟨2, 0, 0, (old s.flash : Int), rec0⟩], (old s.flash : Int), decide (s.flash[old s.flash].worn < 200)) := by
    unfold room blockAt; rw [List.getElem?_eq_getElem hol]; rfl
  generalize room s.flash = R at *
  have HR := Lib.hid hR; clear hR
  cases ho : (openB s.flash).2 with
  | true =>
    have HO := Lib.hid ho; clear ho
    go_enter Try.func107, Try.ntmps107
    go_wp2_with fail
    refine (l3Open_c _ s.flash _ (hF.ext (ext_alloc (ext_alloc (ext_refl _) _) _)) hn HP.out).mono ?_; rintro e1 w1 ⟨rfl, hx⟩
    rw [HO.out]
    obtain ⟨hc, hf, hz, hz1, hX⟩ := after2 hx
    have G := keep_ext hx (hg_new (b := w.heap.size + 1) (by simp))
    go_wp2_with fail
    refine bodyPost_ret (v := .tuple #[.slice (some ⟨w.heap.size + 1, 0, none⟩) 0 0, .int .i64 (openB s.flash).1, .bool true]) (by simp [results, Try.results107, go_sem]) rfl ⟨_, rfl, hX, .slice (some ⟨w.heap.size + 1, 0, none⟩) 0 0, ?_, ?_, ?_⟩
    · rw [HR.out, HO.out]; rfl
    · rw [HR.out, HO.out]; exact SRow.empty G (by omega)
    · rw [HR.out, HO.out]; simp
  | false =>
    have HO := Lib.hid ho; clear ho
    have hR2 := HR.out
    rw [HO.out] at hR2
    simp only [Bool.false_eq_true, if_false] at hR2
    subst hR2
    clear HR
    generalize hbo : old s.flash = bo at *
    obtain ⟨b, o, pv, rfl, hb, hpp, h0, h1⟩ := hF.at2 hol
    obtain ⟨pa, pcap, rfl⟩ := hpp.form
    have hb' : b < w.heap.size := hb
    have HBO := Lib.hid hbo; clear hbo
    generalize hrs : roomSteps s.flash s.flash[bo].pages = R at *
    have HR : Hid (([] : List Step) ++ roomSteps s.flash (s.flash[bo].pages.drop 0) = R) := Lib.hid hrs
    clear hrs
    go_enter Try.func107, Try.ntmps107
    go_wp2_with fail
    refine (l3Open_c _ s.flash _ (hF.ext (ext_alloc (ext_alloc (ext_refl _) _) _)) hn HP.out).mono ?_; rintro e1 w1 ⟨rfl, hx⟩
    rw [HO.out]
    obtain ⟨hc, hf, hz, hz1, hX⟩ := after2 hx
    have G := keep_ext hx (hg_new (b := w.heap.size + 1) (by simp))
    have G0 := keep_ext hx (hg_alloc (hg_new (b := w.heap.size) rfl))
    go_wp2_with fail
    refine (l3Old_c _ s.flash _ (hF.ext hX) hn HP.out).mono ?_; rintro e2 w2 ⟨rfl, hx2⟩
    rw [HBO.out]
    have X2 := ext_trans hX hx2
    replace G := keep_ext hx2 G
    replace G0 := keep_ext hx2 G0
    clear hc hf hX hx2 hz hz1
    go_wp2_with fail
    go_loopw [5, 9] (fun v y wr => ∃ (k : Nat) (acc : List Step), k ≤ 4 ∧ y = .int .i64 k ∧ SRow w.heap.size wr v acc ∧ acc.length ≤ k ∧ Ext w wr ∧ Hid (acc ++ roomSteps s.flash (s.flash[bo].pages.drop k) = R) ∧
      wr.heap[w.heap.size]? = some (.cells #[.slice (some ⟨b, o, none⟩) s.flash.length fc, .slice da s.disk.length dc] 32 (0, 0))) (fun _ y _ => 4 - (intOf y).toNat)
    case atStart => exact ⟨0, [], by omega, rfl, SRow.empty G (by omega), by simp, X2, HR, G0⟩
    case round =>
      clear G G0 X2 HR
      obtain ⟨k, acc, hk, rfl, hS, hal, hX, HR, G0⟩ := hrel
      obtain ⟨sa, scap, rfl⟩ := hS.form
      obtain ⟨g0, gf⟩ := cellsK G0
      have hs0 := heap_lt G0
      obtain ⟨hc, hf⟩ := bcell hX
      by_cases hlt : k < 4
      · have hkl : k < s.flash[bo].pages.length := by omega
        obtain ⟨b2, o2, rfl, hb2, e0, e1, e2, e3, e4⟩ := hpp.at5 hkl
        have hb2' : b2 < w.heap.size := hb2
        rw [roomSteps_drop _ _ _ hkl, ← List.append_assoc] at HR
        go_wp2_with fail
        refine (l3Live_c _ s.flash s.flash[bo].pages[k] _ (hF.ext (ext_alloc hX _)) hn HP.out).mono ?_; rintro e1 w1 ⟨rfl, hx⟩
        obtain ⟨hc1, hf1, hz1, hX1⟩ := after1 hx
        have X1 := ext_trans hX hX1
        have hS1 := hS.ext hX1
        have G1 := keep_ext hX1 G0
        have HS1 := Lib.hid hS1; clear hS1
        generalize hlv : liveP s.flash s.flash[bo].pages[k] = lv at *
        have HLV := Lib.hid hlv; clear hlv
        have hws := X1.size
        go_wp2_with (refine wpList_appStep rfl _ _ rfl rfl (HS1.out.ext (ext_alloc (ext_refl _) _)) (y := diskStepOf s.flash[bo].pages[k]) rfl (hg_new rfl) (by omega) (by simp; omega) (fun v' w' hS' hg => ?_))
        · refine ⟨⟨k + 1, acc ++ [diskStepOf s.flash[bo].pages[k]], by omega, by go_num, hS', by simp; omega, ext_grown (ext_alloc X1 _) (HS1.out.ext (ext_alloc (ext_refl _) _)) hg, Lib.hid ?_, keep_grown (hg_alloc G1) (by decide) (HS1.out.ext (ext_alloc (ext_refl _) _)) hg⟩, by simp [intOf]; omega⟩
          have hr := HR.out
          try simp only [beq_iff_eq, Bool.not_eq_true, beq_eq_false_iff_ne, ne_eq, bne_iff_ne, bne_eq_false_iff_eq, decide_eq_true_eq, decide_eq_false_iff_not] at *
          rw [roomOne, if_pos ⟨by rw [HLV.out]; assumption, by assumption⟩] at hr
          exact hr
        all_goals
          refine ⟨⟨k + 1, acc, by omega, by go_num, HS1.out, by omega, X1, Lib.hid ?_, G1⟩, by simp [intOf]; omega⟩
          have hr := HR.out
          try simp only [beq_iff_eq, Bool.not_eq_true, beq_eq_false_iff_ne, ne_eq, bne_iff_ne, bne_eq_false_iff_eq, decide_eq_true_eq, decide_eq_false_iff_not] at *
          rw [roomOne, if_neg (by rw [HLV.out]; simp [*]), List.append_nil] at hr
          exact hr
      · obtain rfl : k = 4 := by omega
        rw [List.drop_eq_nil_of_le (by omega)] at HR
        have hr : acc = R := by have := HR.out; simpa [roomSteps] using this
        subst hr
        clear HR
        go_wp2_with fail
        refine wp_region_sa hX hS [3, 4] [0, 1, 2, 5, 6, 7, 8, 9, 10, 11, 12, 3, 4, 13, 14, 15] [] [] (by kernel_rfl) (by kernel_rfl) ?late ?_
        case late => exact fun f hf => absurd hf List.not_mem_nil
        iterate 5
          refine Rob.y (v := ?_) rfl rfl (fun w1 hx hH => ?_) ?_; rotate_left
          · go_simp; first | done | rfl | exact (Bool.not_not _).symm
          simp only [Act.put, List.setIfInBounds_toArray, List.set_cons_succ, List.set_cons_zero]
        refine Rob.y (v := ?_) rfl rfl (fun w1 hx hH => ?_) ?_; rotate_left
        · (obtain ⟨k0, kf⟩ := cellsK (hx.keep hS (by decide) G0); obtain ⟨hcx, hfx⟩ := bcell hx.ext); go_simp; first | done | rfl
        simp only [Act.put, List.setIfInBounds_toArray, List.set_cons_succ, List.set_cons_zero]
        refine Rob.y (v := ?_) rfl rfl (fun w1 hx hH => ?_) ?_; rotate_left
        · go_simp; first | done | rfl | exact (Bool.not_not _).symm
        simp only [Act.put, List.setIfInBounds_toArray, List.set_cons_succ, List.set_cons_zero]
        refine Rob.y (v := ?_) rfl rfl (fun w1 hx hH => ?_) ?_; rotate_left
        · (obtain ⟨k0, kf⟩ := cellsK (hx.keep hS (by decide) G0); obtain ⟨hcx, hfx⟩ := bcell hx.ext); go_simp; first | done | rfl
        simp only [Act.put, List.setIfInBounds_toArray, List.set_cons_succ, List.set_cons_zero]
        refine Rob.y (v := ?_) rfl rfl (fun w1 hx hH => ?_) ?_; rotate_left
        · go_simp; first | done | rfl | exact (Bool.not_not _).symm
        simp only [Act.put, List.setIfInBounds_toArray, List.set_cons_succ, List.set_cons_zero]
        refine Rob.y (v := ?_) rfl rfl (fun w1 hx hH => ?_) ?_; rotate_left
        · (obtain ⟨k0, kf⟩ := cellsK (hx.keep hS (by decide) G0); obtain ⟨hcx, hfx⟩ := bcell hx.ext); go_simp; first | done | rfl
        simp only [Act.put, List.setIfInBounds_toArray, List.set_cons_succ, List.set_cons_zero]
        refine Rob.y (v := ?_) rfl rfl (fun w1 hx hH => ?_) ?_; rotate_left
        · go_simp; first | done | rfl | exact (Bool.not_not _).symm
        simp only [Act.put, List.setIfInBounds_toArray, List.set_cons_succ, List.set_cons_zero]
        refine Rob.al (.cells (stepC ⟨2, 0, 0, (bo : Int), rec0⟩).toArray 142 (0, 0)) (fun lo => .slice (some ⟨lo, 0, none⟩) 1 1) rfl rfl rfl (fun _ _ h hx => h.stab hx) (fun w1 => by go_simp; rfl) (fun lo3 hi3 hlo3 hhi3 => ?_)
        simp only [Act.put, List.setIfInBounds_toArray, List.set_cons_succ, List.set_cons_zero]
        refine Rob.app 64 (stepC ⟨2, 0, 0, (bo : Int), rec0⟩) 1 rfl rfl rfl rfl rfl rfl Try.underlying118 (by kernel_rfl) (by omega) rfl rfl (by simp [Value.oneCell']) (by simp [maxLen]; omega) (by omega) hX.size (by omega) rfl hS hlo3 rfl (fun lo4 hi4 v4 hlo4 => ?_)
        simp only [Act.put, List.setIfInBounds_toArray, List.set_cons_succ, List.set_cons_zero]
        iterate 3
          refine Rob.y (v := ?_) rfl rfl (fun w1 hx hH => ?_) ?_; rotate_left
          · go_simp; first | done | rfl | exact (Bool.not_not _).symm
          simp only [Act.put, List.setIfInBounds_toArray, List.set_cons_succ, List.set_cons_zero]
        refine fin_nil (fun w2 hx2 _ => ?_)
        obtain ⟨⟨hSA, -⟩, hO⟩ := hx2
        have hO2 : SRow w.heap.size w2 v4 (acc ++ [⟨2, 0, 0, (bo : Int), rec0⟩]) := by
          show w2.ownsRow _ _ _ _ _ _
          rw [List.length_append, List.flatMap_append]; simpa using hO
        clear hO
        have HO2 := Lib.hid hO2; clear hO2
        go_wp2_with fail
        refine bodyPost_ret (v := .tuple #[v4, .int .i64 bo, .bool (decide (s.flash[bo].worn < 200))]) (by simp [results, Try.results107, go_sem]) rfl ⟨_, rfl, hSA.ext, v4, rfl, HO2.out, by simp; omega⟩

theorem foldl_inv {α σ : Type} (g : σ → α → σ) (I : σ → Prop) : ∀ (xs : List α) (s : σ), I s → (∀ s x, x ∈ xs → I s → I (g s x)) → I (xs.foldl g s)
  | [], s, h, _ => h
  | x :: xs, s, h, hs => foldl_inv g I xs _ (hs s x (by simp) h) fun s y hy => hs s y (by simp [hy])
theorem most_bd {ps : List Page} (h : ∀ p ∈ ps, pageOkB p = true) : 0 ≤ most ps ∧ most ps ≤ 600 :=
  foldl_inv mostStep (fun n => 0 ≤ n ∧ n ≤ 600) ps 0 (by omega) fun s p hp hs => by have := pageOk_seq (h p hp); unfold mostStep; split <;> omega
theorem maxSeq_bd {f : List Block} (h : flashOkB f = true) : 0 ≤ maxSeq f ∧ maxSeq f ≤ 600 :=
  foldl_inv nextStep (fun n => 0 ≤ n ∧ n ≤ 600) f 0 (by omega) fun s b hb hs => by have := most_bd (flashOk_block h hb).2.2.2; unfold nextStep; split <;> omega

/-- a call that hands back a new row of steps -/
def RetS (w : World) (xs : List Step) : Ending → World → Prop := RetP w fun v w' => SRow w.heap.size w' v xs ∧ xs.length ≤ 7
/-- the row of steps, whatever it was made since, but since base -/
def SΦ (base : Nat) (xs : List Step) (v : Value) (w' : World) : Prop := (∃ b, base ≤ b ∧ SRow b w' v xs) ∧ xs.length ≤ 7
theorem SΦ.ext {base : Nat} {xs : List Step} {v : Value} {w w' : World} (h : SΦ base xs v w) (hx : Ext w w') : SΦ base xs v w' := ⟨h.1.imp fun b hb => ⟨hb.1, hb.2.ext hx⟩, h.2⟩
theorem RetS.weak {base : Nat} {xs : List Step} {w1 w' : World} {e : Ending} (h : RetS w1 xs e w') (hb : base ≤ w1.heap.size) : RetP w1 (SΦ base xs) e w' := by
  obtain ⟨v, he, hx, hS, hl⟩ := h; exact ⟨v, he, hx, ⟨_, hb, hS⟩, hl⟩
theorem SRow.base {b b' : Nat} {w : World} {v : Value} {xs : List Step} (h : SRow b w v xs) (hb : b' ≤ b) : SRow b' w v xs :=
  ⟨h.1, h.2.imp id fun ⟨g, cap, cur, hv, hg, hr⟩ => ⟨g, cap, cur, hv, Nat.le_trans hb hg, hr⟩⟩

theorem room_len {f : List Block} (h : (room f).1.length ≤ 5) (kind addr val : Int) : (writeSteps f kind addr val).length ≤ 6 := by
  unfold writeSteps; split
  · simp; omega
  · simp

theorem roomSteps_len (f : List Block) : ∀ ps : List Page, (roomSteps f ps).length ≤ ps.length
  | [] => by simp [roomSteps]
  | p :: ps => by
    have := roomSteps_len f ps
    have h1 : (roomOne f p).length ≤ 1 := by unfold roomOne; split <;> simp
    simp only [roomSteps, List.flatMap_cons, List.length_append, List.length_cons] at *
    omega
theorem room_le {f : List Block} (h : flashOkB f = true) : (room f).1.length ≤ 5 := by
  unfold room
  split
  · simp
  · have h4 := flashOk_len h
    have hl := old_lt (f := f) (by omega)
    have hb := (flashOk_block h (List.getElem_mem hl)).1
    have := roomSteps_len f (blockAt f (old f)).pages
    unfold blockAt at this ⊢
    rw [List.getElem?_eq_getElem hl] at this ⊢
    simp at this ⊢
    omega
theorem write_le {f : List Block} (h : flashOkB f = true) (kind addr val : Int) : (writeSteps f kind addr val).length ≤ 6 := room_len (room_le h) kind addr val

set_option maxHeartbeats 2000000 in
theorem l12Write_c (fv dv : Value) (s : Store) (kind addr val : Int) (w : World) (h : StoreV w fv dv s) (hok : flashOkB s.flash = true) :
    Calls Try.prog 88 #[.agg #[fv, dv], .int .i64 kind, .int .i64 addr, .int .i64 val] w (RetS w (writeSteps s.flash kind addr val)) := by
  have hn : s.flash.length ≤ 1048576 := by have := flashOk_len hok; omega
  have HP := Lib.hid (pages_short hok)
  have HO := Lib.hid hok
  have hms := maxSeq_bd hok
  have hsv := h
  obtain ⟨hF, hD⟩ := h
  obtain ⟨fa, fc, rfl⟩ := hF.form
  obtain ⟨da, dc, rfl⟩ := hD.form
  have HW : Hid (writeSteps s.flash kind addr val = if (room s.flash).2.2 && recOkB ⟨kind, next s.flash, addr, val⟩ then (room s.flash).1 ++ [⟨3, 0, 0, (room s.flash).2.1, ⟨kind, next s.flash, addr, val⟩⟩] else []) := Lib.hid rfl
  have HL := Lib.hid (fun h => room_len (f := s.flash) h kind addr val)
  generalize writeSteps s.flash kind addr val = WS at *
  clear hok
  go_enter Try.func88, Try.ntmps88
  go_wp2_with fail
  refine (l3Next_c _ s.flash _ (hF.ext (ext_alloc (ext_refl _) _)) hn HP.out (by omega)).mono ?_; rintro e1 w1 ⟨rfl, hx⟩
  obtain ⟨hc, hf, hz, hX⟩ := after1 hx
  have G0 := keep_ext hx (hg_new (b := w.heap.size) rfl)
  generalize next s.flash = nx at *
  go_wp2_with fail
  refine (l12Room_c _ _ s _ (hsv.ext (ext_alloc hX _)) HO.out).mono ?_; rintro e2 w2 ⟨v2, rfl, hx2, sv, rfl, hS, hsl⟩
  generalize room s.flash = R at *
  obtain ⟨rs, rb, ro⟩ := R
  obtain ⟨sa, scap, rfl⟩ := hS.form
  have X2 : Ext w w2 := ext_trans (ext_alloc hX _) hx2
  replace G0 := keep_ext hx2 (hg_alloc G0)
  have G9 := keep_ext hx2 (hg_new (b := w1.heap.size) rfl)
  have hL := HL.out hsl
  dsimp only at *
  have HS := Lib.hid (hS.base (b' := w.heap.size) (by have := hX.size; simp; omega))
  clear hS hc hf
  obtain ⟨g0, gf0⟩ := cellsK G0
  obtain ⟨g9, gf9⟩ := cellsK G9
  have l0 := heap_lt G0
  have l9 := heap_lt G9
  generalize hrok : recOkB ⟨kind, nx, addr, val⟩ = rok at *
  have HRO := Lib.hid hrok; clear hrok
  go_wp2_with (first
    | (go_at_call 108; (with_reducible refine (specRecOk_c ⟨kind, nx, addr, val⟩ _).mono ?_); rintro e3 w3 ⟨rfl, hx3⟩; rw [HRO.out]; have X3 := ext_trans X2 hx3; replace HS := Lib.hid (HS.out.ext hx3); replace G0 := keep_ext hx3 G0; replace G9 := keep_ext hx3 G9; clear g0 gf0 g9 gf9; obtain ⟨g0, gf0⟩ := cellsK G0; obtain ⟨g9, gf9⟩ := cellsK G9)
    | (refine wpList_appStep rfl _ _ rfl rfl (HS.out.ext (ext_alloc (ext_refl _) _)) (y := ⟨3, 0, 0, rb, ⟨kind, nx, addr, val⟩⟩) rfl (hg_new rfl) (by omega) (by have := X3.size; simp; omega) (fun v' w' hS' hg => ?_)))
  · have hw : WS = [] := by
      have hk : rok = false := by simpa using ‹(!rok) = true›
      rw [HW.out, if_neg (by simp [hk])]
    go_ret
    subst hw
    exact ⟨_, rfl, ext_alloc X3 _, SRow.empty (hg_new rfl) (by have := X3.size; omega), by simp⟩
  · have hk : rok = true := by simpa using ‹(!rok) = false›
    have hw : WS = rs ++ [⟨3, 0, 0, rb, ⟨kind, nx, addr, val⟩⟩] := by rw [HW.out, if_pos (by simp [*])]
    go_ret
    exact ⟨_, rfl, ext_grown (ext_alloc X3 _) (HS.out.ext (ext_alloc (ext_refl _) _)) hg, by rw [hw]; exact hS', by omega⟩
  · have hw : WS = [] := by rw [HW.out, if_neg (by simp [*])]
    go_ret
    subst hw
    exact ⟨_, rfl, ext_alloc X2 _, SRow.empty (hg_new rfl) (by have := X2.size; omega), by simp⟩

def flushSteps (s : Store) (n : Nat) : List Step :=
  if dirtyB s ((n : Int) + 1) then (if writeSteps s.flash 2 ((n : Int) + 1) (readN s n) = [] then [] else ⟨1, (n : Int) + 1, readN s n, 0, rec0⟩ :: writeSteps s.flash 2 ((n : Int) + 1) (readN s n)) else []
def addrStep (g : Nat → List Step) (addr : Int) : List Step := if inB addr 1 6 then g (addr - 1).toNat else []
def fillSteps (s : Store) (n : Nat) : List Step := if 0 < (last s.flash ((n : Int) + 1)).seq then [] else writeSteps s.flash 2 ((n : Int) + 1) (s.disk.getD n 0)
def putSteps (s : Store) (addr val : Int) : List Step := writeSteps s.flash 1 addr val
def playSteps (s : Store) (e : Event) : List Step :=
  if e.kind = 1 then putSteps s e.a e.b else if e.kind = 2 then addrStep (flushSteps s) e.a else if e.kind = 3 then addrStep (fillSteps s) e.a else []

/-- a store that the steps may be asked of -/
structure StoreP (s : Store) : Prop where
  flash : flashOkB s.flash = true
  disk : s.disk.length = 6
theorem StoreP.short {s : Store} (h : StoreP s) : s.flash.length ≤ 1048576 := by have := flashOk_len h.flash; omega

set_option maxHeartbeats 2000000 in
theorem l12Flush_c (fv dv : Value) (s : Store) (addr : Int) (w : World) (h : StoreV w fv dv s) (hok : StoreP s) :
    Calls Try.prog 130 #[.agg #[fv, dv], .int .i64 addr] w (RetS w (addrStep (flushSteps s) addr)) := by
  have hn := hok.short
  have HP := Lib.hid (pages_short hok.flash)
  have HO := Lib.hid hok.flash
  have hd6 := Lib.hid hok.disk
  have hsv := h
  obtain ⟨hF, hD⟩ := h
  obtain ⟨fa, fc, rfl⟩ := hF.form
  obtain ⟨da, dc, rfl⟩ := hD.form
  clear hok
  cases hin : inB addr 1 6 with
  | false =>
    have hq : addrStep (flushSteps s) addr = [] := by unfold addrStep; rw [hin]; rfl
    rw [hq]
    have HI := Lib.hid hin; clear hin hq
    go_enter Try.func130, Try.ntmps130
    go_wp2_with (go_at_call 36; refine (l6In_c _ _ _ _).mono ?_; rintro e1 w1 ⟨rfl, rfl⟩; rw [HI.out])
    go_ret
    exact ⟨_, rfl, by go_grown, SRow.empty (hg_new (by simp)) (by simp), by simp⟩
  | true =>
    obtain ⟨n, rfl, hn6⟩ : ∃ n : Nat, addr = (n : Int) + 1 ∧ n < 6 := ⟨(addr - 1).toNat, by have := inB_iff.1 hin; omega, by have := inB_iff.1 hin; omega⟩
    have hq : addrStep (flushSteps s) ((n : Int) + 1) = flushSteps s n := by unfold addrStep; rw [hin]; simp
    rw [hq]
    have HI := Lib.hid hin; clear hin hq
    have hq : flushSteps s n = if dirtyB s ((n : Int) + 1) then (if writeSteps s.flash 2 ((n : Int) + 1) (readN s n) = [] then [] else ⟨1, (n : Int) + 1, readN s n, 0, rec0⟩ :: writeSteps s.flash 2 ((n : Int) + 1) (readN s n)) else [] := rfl
    generalize flushSteps s n = FS at *
    have HQ := Lib.hid hq; clear hq
    go_enter Try.func130, Try.ntmps130
    go_wp2_with (go_at_call 36; refine (l6In_c _ _ _ _).mono ?_; rintro e1 w1 ⟨rfl, rfl⟩; rw [HI.out])
    refine (l11Dirty_c _ _ s _ _ (hsv.ext (ext_alloc (ext_refl _) _)) hn HP.out).mono ?_; rintro e1 w1 ⟨rfl, hx1⟩
    obtain ⟨hc1, hf1, hz1, X1⟩ := after1 hx1
    generalize hdb : dirtyB s ((n : Int) + 1) = db at *
    have HD := Lib.hid hdb; clear hdb
    cases db with
    | false =>
      go_wp2_with fail
      go_ret
      have hq : FS = [] := by rw [HQ.out]; rfl
      subst hq
      exact ⟨_, rfl, ext_alloc X1 _, SRow.empty (hg_new rfl) (by omega), by simp⟩
    | true =>
      have G1 := keep_ext hx1 (hg_new (b := w.heap.size) rfl)
      go_wp2_with fail
      refine (l11Read_c _ _ s n _ (hsv.ext X1) hn HP.out (by have := hd6.out; omega) (by have := hd6.out; omega)).mono ?_; rintro e2 w2 ⟨rfl, hx2⟩
      have X2 := ext_trans X1 hx2
      have G2 := keep_ext hx2 G1
      have l2 := heap_lt G2
      obtain ⟨g2, gf2⟩ := cellsK G2
      clear hc1 hf1 G1
      generalize readN s n = rv at *
      go_wp2_with fail
      refine (l12Write_c _ _ s 2 _ rv _ (hsv.ext X2) HO.out).mono ?_; rintro e3 w3 ⟨sv, rfl, hx3, hS, hsl⟩
      have X3 := ext_trans X2 hx3
      have hw6 := write_le HO.out 2 ((n : Int) + 1) rv
      generalize writeSteps s.flash 2 ((n : Int) + 1) rv = WS at *
      obtain ⟨sa, scap, rfl⟩ := hS.form
      have HS := Lib.hid (hS.base (b' := w.heap.size) X2.size)
      clear hS g2 gf2
      have hz3 := X3.size
      by_cases hw0 : WS = []
      · subst hw0
        go_wp2_with fail
        go_ret
        have hq : FS = [] := by rw [HQ.out]; rfl
        subst hq
        exact ⟨_, rfl, X3, HS.out, by simp⟩
      · have hln : (((WS.length : Nat) : Int) == 0) = false := by simp [hw0]
        have HW := Lib.hid hw0; clear hw0
        go_wp2_with (refine wpList_appSteps rfl _ _ rfl (v := .slice (some ⟨w3.heap.size, 0, none⟩) 1 1) (xs := [⟨1, (n : Int) + 1, rv, 0, rec0⟩]) rfl (SRow.one (hg_new rfl) hz3) rfl (HS.out.ext (ext_alloc (ext_refl _) _)) HW.out (by simp; omega) (by simp; omega) (fun v' w' hS' hg => ?_))
        go_ret
        have hq : FS = ⟨1, (n : Int) + 1, rv, 0, rec0⟩ :: WS := by rw [HQ.out, if_pos trivial, if_neg HW.out]
        subst hq
        refine ⟨_, rfl, ext_grown (ext_alloc X3 _) (v := .slice (some ⟨w3.heap.size, 0, none⟩) 1 1) (SRow.one (y := ⟨1, (n : Int) + 1, rv, 0, rec0⟩) (hg_new rfl) hz3) hg, hS', ?_⟩
        simp; omega

set_option maxHeartbeats 2000000 in
theorem l12Fill_c (fv dv : Value) (s : Store) (addr : Int) (w : World) (h : StoreV w fv dv s) (hok : StoreP s) :
    Calls Try.prog 131 #[.agg #[fv, dv], .int .i64 addr] w (RetS w (addrStep (fillSteps s) addr)) := by
  have hn := hok.short
  have HP := Lib.hid (pages_short hok.flash)
  have HO := Lib.hid hok.flash
  have hd6 := Lib.hid hok.disk
  have hsv := h
  obtain ⟨hF, hD⟩ := h
  obtain ⟨fa, fc, rfl⟩ := hF.form
  obtain ⟨da, dc, rfl⟩ := hD.form
  clear hok
  cases hin : inB addr 1 6 with
  | false =>
    have hq : addrStep (fillSteps s) addr = [] := by unfold addrStep; rw [hin]; rfl
    rw [hq]
    have HI := Lib.hid hin; clear hin hq
    go_enter Try.func131, Try.ntmps131
    go_wp2_with (go_at_call 36; refine (l6In_c _ _ _ _).mono ?_; rintro e1 w1 ⟨rfl, rfl⟩; rw [HI.out])
    go_ret
    exact ⟨_, rfl, by go_grown, SRow.empty (hg_new (by simp)) (by simp), by simp⟩
  | true =>
    obtain ⟨n, rfl, hn6⟩ : ∃ n : Nat, addr = (n : Int) + 1 ∧ n < 6 := ⟨(addr - 1).toNat, by have := inB_iff.1 hin; omega, by have := inB_iff.1 hin; omega⟩
    have hq : addrStep (fillSteps s) ((n : Int) + 1) = fillSteps s n := by unfold addrStep; rw [hin]; simp
    rw [hq]
    have HI := Lib.hid hin; clear hin hq
    have hil : n < s.disk.length := by have := hd6.out; omega
    have hq : fillSteps s n = if 0 < (last s.flash ((n : Int) + 1)).seq then [] else writeSteps s.flash 2 ((n : Int) + 1) s.disk[n] := by
      unfold fillSteps; rw [List.getD_eq_getElem?_getD, List.getElem?_eq_getElem hil]; rfl
    obtain ⟨b, o, rfl, hb, e0⟩ := hD.at1 hil
    have hb' : b < w.heap.size := hb
    generalize fillSteps s n = FS at *
    have HQ := Lib.hid hq; clear hq
    go_enter Try.func131, Try.ntmps131
    go_wp2_with (go_at_call 36; refine (l6In_c _ _ _ _).mono ?_; rintro e1 w1 ⟨rfl, rfl⟩; rw [HI.out])
    refine (l3Last_c _ s.flash ((n : Int) + 1) _ (hF.ext (ext_alloc (ext_refl _) _)) hn HP.out).mono ?_; rintro e1 w1 ⟨rfl, hx1⟩
    obtain ⟨hc1, hf1, hz1, X1⟩ := after1 hx1
    have G1 := keep_ext hx1 (hg_new (b := w.heap.size) rfl)
    generalize last s.flash ((n : Int) + 1) = r at *
    by_cases hr : 0 < r.seq
    · go_wp2_with fail
      go_ret
      have hq : FS = [] := by rw [HQ.out, if_pos hr]
      subst hq
      exact ⟨_, rfl, by go_grown, SRow.empty (hg_new (by simp)) (by have := X1.size; omega), by simp⟩
    · have hrf : decide (0 < r.seq) = false := by simpa using hr
      have hbw : b < w1.heap.size := Nat.lt_trans hb' hz1
      have hwn : IntKind.i64.wrap (n : Int) = n := IntWalk.i64_in _ (by omega)
      have hwn2 : (n : Int) < s.disk.length := by omega
      have XA : ∀ {w' : World} {ob : Obj}, Ext (w1.alloc ob) w' → Ext w w' := fun h => ext_trans (ext_alloc X1 _) h
      go_wp2_with fail
      refine wp_region_ext [8] [0, 1, 2, 3, 4, 5, 6, 7, 8, 9] [] [] (by kernel_rfl) (by kernel_rfl) ?late ?_
      case late => exact fun f hf => absurd hf List.not_mem_nil
      refine Rob.y (v := ?_) rfl rfl (fun w1 hx hH => ?_) ?_; rotate_left
      · (obtain ⟨hcx, hfx⟩ := bcell hx); go_simp; first | done | rfl
      simp only [Act.put, List.setIfInBounds_toArray, List.set_cons_succ, List.set_cons_zero]
      iterate 2
        refine Rob.y (v := ?_) rfl rfl (fun w1 hx hH => ?_) ?_; rotate_left
        · go_simp; first | done | rfl | exact (Bool.not_not _).symm
        simp only [Act.put, List.setIfInBounds_toArray, List.set_cons_succ, List.set_cons_zero]
      refine Rob.y (v := ?_) rfl rfl (fun w1 hx hH => ?_) ?_; rotate_left
      · (obtain ⟨hcx, hfx⟩ := bcell hx); go_simp; first | done | rfl
      simp only [Act.put, List.setIfInBounds_toArray, List.set_cons_succ, List.set_cons_zero]
      iterate 2
        refine Rob.y (v := ?_) rfl rfl (fun w1 hx hH => ?_) ?_; rotate_left
        · go_simp; first | done | rfl | exact (Bool.not_not _).symm
        simp only [Act.put, List.setIfInBounds_toArray, List.set_cons_succ, List.set_cons_zero]
      iterate 2
        refine Rob.y (v := ?_) rfl rfl (fun w1 hx hH => ?_) ?_; rotate_left
        · (obtain ⟨hcx, hfx⟩ := bcell hx); go_simp; first | done | rfl
        simp only [Act.put, List.setIfInBounds_toArray, List.set_cons_succ, List.set_cons_zero]
      refine Rob.c ((fun lo hi v w' => SΦ w.heap.size (writeSteps s.flash 2 ((n : Int) + 1) s.disk[n]) v w')) rfl rfl rfl (fun _ _ => ext_trans) (fun _ _ _ _ _ => fun h hx => h.ext hx) (fun w1 hx hH => ?_) (fun lo8 hi8 v8 hlo8 hhi8 hv8 => ?_)
      · unfold RunTo; go_simp; exact (((l12Write_c _ _ s 2 _ s.disk[n] _ (hsv.ext (XA hx)) HO.out).mono fun e w' h => RetS.weak h (XA hx).size)).mono fun e w' h => h.to
      simp only [Act.put, List.setIfInBounds_toArray, List.set_cons_succ, List.set_cons_zero]
      refine Rob.y (v := ?_) rfl rfl (fun w1 hx hH => ?_) ?_; rotate_left
      · go_simp; first | done | rfl | exact (Bool.not_not _).symm
      simp only [Act.put, List.setIfInBounds_toArray, List.set_cons_succ, List.set_cons_zero]
      refine fin_nil (fun w2 hx2 _ => ?_)
      obtain ⟨hE, ⟨bb, hbb, hS⟩, hsl⟩ := hx2
      have HS := Lib.hid (hS.base hbb); clear hS
      have X2 := XA hE
      go_wp2_with fail
      go_ret
      have hq : FS = writeSteps s.flash 2 ((n : Int) + 1) s.disk[n] := by rw [HQ.out, if_neg (by omega)]
      subst hq
      exact ⟨_, rfl, X2, HS.out, hsl⟩
end Go.Bu

/- The program's copies: pagesCopy, flashCopy, storeCopy. -/
import Derived.Test.YtcainddboblpbaaImplF
import Derived.Test.YtcainddboblpbaaNew3
import Derived.Test.YtcainddboblpbaaMarks
import Derived.Deep.MidRow
import Derived.Test.YtcainddboblpbaaOrderLaw
import Derived.Laws.IdiomCopy
set_option linter.unusedVariables false
set_option linter.unusedSimpArgs false
namespace Go.Bu
open Go Go.RowKit Go.Plan Go.Proofs

theorem flat_inv {α : Type} {n : Nat} {enc : α → List Value} (hn : ∀ x, (enc x).length = n) (h0 : 0 < n) : ∀ (xs : List α) (j : Nat) (v : Value), (xs.flatMap enc)[j]? = some v → ∃ x, xs[j / n]? = some x ∧ (enc x)[j % n]? = some v
  | [], j, v, h => by simp at h
  | x :: xs, j, v, h => by
    rw [List.flatMap_cons] at h
    by_cases hj : j < n
    · rw [List.getElem?_append_left (by rw [hn]; exact hj)] at h
      exact ⟨x, by rw [Nat.div_eq_of_lt hj]; rfl, by rw [Nat.mod_eq_of_lt hj]; exact h⟩
    · rw [List.getElem?_append_right (by rw [hn]; omega), hn] at h
      obtain ⟨y, h1, h2⟩ := flat_inv hn h0 xs (j - n) v h
      have e : j = (j - n) + n := by omega
      have e1 : j / n = (j - n) / n + 1 := by rw [e, Nat.add_div_right _ h0, Nat.add_sub_cancel]
      have e2 : j % n = (j - n) % n := by conv => lhs; rw [e]
                                          exact Nat.add_mod_right _ _
      exact ⟨y, by rw [e1]; exact h1, by rw [e2]; exact h2⟩

theorem run_copy_n {P : Program} (w : World) (dT sT ty elem : TypeId) (b o dLen dCap : Nat) (a : Addr) (sLen sCap k : Nat) (cs : List Value)
    (hu : P.underlying dT = some (.slice elem)) (hs : (P.info? elem).map (·.size) = some k) (hn : cs.length = Nat.min sLen dLen * k)
    (hsrc : ∀ j v, cs[j]? = some v → w.cell? (a.add j) = some v) (hc : ∀ j, j < cs.length → (w.cell? ⟨b, o + j, none⟩).isSome = true) (hf : ∀ j, j < cs.length → w.frozen? ⟨b, o + j, none⟩ = false) (h1 : ∀ v ∈ cs, v.oneCell' = true) :
    (Builtin.copy_ #[dT, sT] ty #[.slice (some ⟨b, o, none⟩) dLen dCap, .slice (some a) sLen sCap]).run P w = .ok (goInt (Nat.min sLen dLen)) (w.setCells b o cs) := by
  have hl := run_loadCells_list (P := P) w a cs hsrc
  have hst := run_storeCells_cells (P := P) b o cs 0 w (by simpa using hc) (by simpa using hf) h1
  cases hq : P.info? elem with
  | none => simp [hq] at hs
  | some i =>
    have hi : i.size = k := by simpa [hq] using hs
    simp [Builtin.copy_, run_underlying hu, Builtin.lenOf, Builtin.firstCells, sizeOf, typeInfo, hq, hi, ← hn, hl, hst]
/-- here the walk stops, to be gone on with by hand -/
def Stopped (p : Prop) : Prop := p
theorem wpList_copyN {P : Program} {w : World} {ops : Array Oper} {rest : List Oper} {o : Oper} {a : Act} {Q : Exit → Act → World → Prop} (hgd : o.guard = none) (d s : Operand) (dT sT : TypeId)
    (ho : o.op = .call { callee := .builtin .copy, args := #[d, s], argTypes := #[dT, sT] }) (elem : TypeId) (k : Nat) (hu : P.underlying dT = some (.slice elem)) (hsz : (P.info? elem).map (·.size) = some k)
    (b off dLen dCap : Nat) (ad : Addr) (sLen sCap : Nat) (hd : a.eval d = .slice (some ⟨b, off, none⟩) dLen dCap) (hs : a.eval s = .slice (some ad) sLen sCap) (cs : List Value) (hn : cs.length = Nat.min sLen dLen * k)
    (hsrc : ∀ j v, cs[j]? = some v → w.cell? (ad.add j) = some v) (hc : ∀ j, j < cs.length → (w.cell? ⟨b, off + j, none⟩).isSome = true) (hf : ∀ j, j < cs.length → w.frozen? ⟨b, off + j, none⟩ = false) (h1 : ∀ v ∈ cs, v.oneCell' = true)
    (hK : Stopped (wpList P ops Q rest (a.put o.dst (goInt (Nat.min sLen dLen))) (setAll w b off cs))) : wpList P ops Q (o :: rest) a w := by
  refine wpList_plain hgd fun K' hK' => ?_
  have hrun := run_copy_n (P := P) w dT sT o.type elem b off dLen dCap ad sLen sCap k cs hu hsz hn hsrc hc hf h1
  unfold Oper.wp
  simp [execOp, ho, resolve, invoke, builtin, hd, hs, hrun, Result.andThen]
  exact hK' _ _ hK

theorem flat_len {α : Type} {n : Nat} {enc : α → List Value} (hn : ∀ x, (enc x).length = n) (xs : List α) : (xs.flatMap enc).length = xs.length * n := by
  induction xs with
  | nil => simp
  | cons x xs ih => rw [List.flatMap_cons, List.length_append, ih, hn, List.length_cons, Nat.add_mul]; omega
/-- the cells that a slice reads as -/
theorem Sl.flat {α : Type} {n : Nat} {enc : α → List Value} (hn : ∀ x, (enc x).length = n) (h0 : 0 < n) {D : Nat → Prop} {w : World} {b o len cap : Nat} {xs : List α} (h : Sl n (plain enc) D w (.slice (some ⟨b, o, none⟩) len cap) xs) :
    ∀ j v, (xs.flatMap enc)[j]? = some v → w.cell? (Addr.add ⟨b, o, none⟩ j) = some v := by
  intro j v hj
  obtain ⟨x, h1, h2⟩ := flat_inv hn h0 xs j v hj
  obtain ⟨a', cap', hv, hx⟩ := h
  injection hv with e1 e2 e3
  obtain ⟨b', o', cs, ha, _, he, hc⟩ := hx _ _ h1
  subst e1
  injection ha with ha
  injection ha with hb ho
  subst hb; subst ho
  have he' : cs = enc x := he
  subst he'
  have := hc _ _ h2
  rw [show o + j / n * n + j % n = o + j by have := Nat.div_add_mod j n; rw [Nat.mul_comm] at this; omega] at this
  unfold Addr.add
  split
  · rename_i h0'; subst h0'; exact this
  · exact this
/-- a block that is filled from its head on -/
theorem OwnV.filled {α : Type} {n : Nat} {enc : α → List Value} (hn : ∀ x, (enc x).length = n) {w : World} {B T : Nat} {c : Array Value} {xs : List α} (hB : w.heap[B]? = some (.cells c T (0, 0))) (hc : c.size = xs.length * n) (cap : Nat) :
    OwnV n enc (setAll w B 0 (xs.flatMap enc)) (.slice (some ⟨B, 0, none⟩) xs.length (xs.length + cap)) xs B := by
  obtain ⟨c', h1, h2, h3⟩ := setAll_block (xs.flatMap enc) w 0 c hB (by rw [flat_len hn, hc]; omega)
  refine ⟨T, 0, cap, rfl, c', h1, fun i x hi j u hu => ?_⟩
  rw [h3, if_pos (Nat.zero_le _), Nat.sub_zero, Nat.zero_add]
  exact flat_get hn xs i x j u hi hu

theorem oneCell_page (ps : List Page) : ∀ v ∈ ps.flatMap pageC, v.oneCell' = true := by
  intro v hv
  obtain ⟨p, _, hp⟩ := List.mem_flatMap.1 hv
  simp at hp
  rcases hp with rfl | rfl | rfl | rfl | rfl <;> rfl

set_option maxRecDepth 20000 in
theorem pagesCopy_c (pv : Value) (ps : List Page) (w : World) (h : Pages (Old w) w pv ps) (h4 : ps.length = 4) :
    Calls Try.prog 104 #[pv] w (fun e w' => ∃ B, e = .returned (.slice (some ⟨B, 0, none⟩) 4 4) ∧ Ext w w' ∧ w.heap.size ≤ B ∧ OwnPages w' (.slice (some ⟨B, 0, none⟩) 4 4) ps B) := by
  obtain ⟨a, cap, rfl⟩ := h.form
  obtain ⟨b, o, rfl, hb, -⟩ := h.at5 (k := 0) (by omega)
  have hfl := Sl.flat (n := 5) (enc := pageC) (fun _ => rfl) (by omega) h
  have hone := oneCell_page ps
  have hlen : (ps.flatMap pageC).length = 20 := by rw [flat_len (n := 5) (fun _ => rfl), h4]
  have hfill := fun (w : World) (B T : Nat) (c : Array Value) (hB : w.heap[B]? = some (.cells c T (0, 0))) (hc : c.size = 20) => OwnV.filled (n := 5) (enc := pageC) (fun _ => rfl) (xs := ps) hB (by rw [h4, hc]) 0
  rw [h4] at hfill
  rw [h4]
  have HF := Lib.hid hfill
  generalize ps.flatMap pageC = cs at *
  have HFL := Lib.hid hfl
  have HO := Lib.hid hone
  clear hfl hone h hfill
  obtain ⟨c0, hc0⟩ : ∃ c0 : Array Value, #[.int .i64 0, .int .i64 0, .int .i64 0, .int .i64 0, .int .i64 0, .int .i64 0, .int .i64 0, .int .i64 0, .int .i64 0, .int .i64 0, .int .i64 0, .int .i64 0, .int .i64 0, .int .i64 0, .int .i64 0, .int .i64 0, .int .i64 0, .int .i64 0, .int .i64 0, .int .i64 0] = c0 := ⟨_, rfl⟩
  have hs0 : c0.size = 20 := by rw [← hc0]; rfl
  have hb' : b < w.heap.size := hb
  go_enter Try.func104, Try.ntmps104
  go_wp2_with (refine wpList_copyN rfl _ _ 104 104 rfl 99 5 Try.underlying104 (by kernel_rfl) w.heap.size 0 4 4 ⟨b, o, none⟩ 4 cap rfl rfl cs (by rw [hlen]; rfl) ?src ?cells ?frz HO.out ?_)
  case src =>
    intro j v hj
    have := HFL.out j v hj
    have hadd : Addr.add ⟨b, o, none⟩ j = ⟨b, o + j, none⟩ := by unfold Addr.add; split <;> simp_all
    rw [hadd] at this ⊢
    unfold World.cell? at this ⊢
    rw [alloc_get_old hb']; exact this
  case cells => intro j hj; rw [cell_block (alloc_get_new rfl), Nat.zero_add, Array.getElem?_eq_getElem (by omega)]; rfl
  case frz => intro j hj; exact frozen_block (alloc_get_new rfl) _
  unfold Stopped
  go_wp2_with fail
  have G0 : (w.alloc (.cells c0 136)).heap[w.heap.size]? = some (.cells c0 136 (0, 0)) := hg_new rfl
  have hO := HF.out _ _ _ _ G0 hs0
  have hX := ext_setAll (ext_alloc (ext_refl w) (.cells c0 136)) (Nat.le_refl _) 0 cs
  refine bodyPost_ret (v := .slice (some ⟨w.heap.size, 0, none⟩) 4 4) (by simp [results, Try.results104, go_sem]) rfl ⟨w.heap.size, rfl, hX, Nat.le_refl _, hO⟩

def CopyΦ (w : World) (f : List Block) (e : Ending) (w' : World) : Prop := ∃ B bs cap, e = .returned (.slice (some ⟨B, 0, none⟩) 4 cap) ∧ Ext w w' ∧ OwnFlash w' (.slice (some ⟨B, 0, none⟩) 4 cap) f B bs ∧ (B :: bs).Nodup ∧ ∀ b ∈ B :: bs, w.heap.size ≤ b

set_option maxRecDepth 20000 in
set_option maxHeartbeats 2000000 in
theorem flashCopy_c (v : Value) (f : List Block) (w : World) (h : Flash (Old w) w v f) (h4 : f.length = 4) (hp : ∀ b ∈ f, b.pages.length = 4) :
    Calls Try.prog 85 #[v] w (CopyΦ w f) := by
  obtain ⟨a, cap, rfl⟩ := h.form
  rw [h4] at h ⊢
  have H4 := Lib.hid h4
  have HP := Lib.hid hp
  clear h4 hp
  have hmk : ∀ w : World, (Instr.makeSlice 30 (.int .i64 4) (.int .i64 4)).run Try.prog w = .ok (.slice (some ⟨w.heap.size, 0, none⟩) 4 4) (w.alloc (.cells #[.slice none 0 0, .int .i64 0, .slice none 0 0, .int .i64 0, .slice none 0 0, .int .i64 0, .slice none 0 0, .int .i64 0] 106)) := fun w => by kernel_rfl
  have h0 : Filled 2 rowC (w.alloc (.cells #[.slice none 0 0, .int .i64 0, .slice none 0 0, .int .i64 0, .slice none 0 0, .int .i64 0, .slice none 0 0, .int .i64 0] 106)) w.heap.size 106 8 ([] : List (Value × Int)) := ⟨_, alloc_get_new rfl, rfl, fun i x hx => by simp at hx⟩
  have H0 := Lib.hid h0
  clear h0
  go_enter Try.func85, Try.ntmps85
  go_wp2_with fail
  clear hmk
  go_loopw [11] (fun i wr => ∃ (k : Nat) (rows : List (Value × Int)) (bs : List Nat), k ≤ 4 ∧ i = .int .i64 k ∧ Ext w wr ∧ Filled 2 rowC wr w.heap.size 106 8 rows ∧ rows.length = k ∧ bs.length = k ∧ bs.Nodup ∧ Hid (∀ b ∈ bs, w.heap.size < b) ∧ Hid (PagesAt wr rows (f.take k) bs)) (fun i _ => 4 - (intOf i).toNat)
  case atStart => exact ⟨0, [], [], Nat.zero_le _, rfl, ext_alloc (ext_refl _) _, H0.out, rfl, rfl, List.nodup_nil, Lib.hid (fun b hb => by cases hb), Lib.hid (fun i x r b h => by simp at h)⟩
  case round =>
    clear H0
    obtain ⟨k, rows, bs, hk, rfl, hX, hfl, hrl, hbl, hnd, HB, HPA⟩ := hrel
    by_cases hlt : k < 4
    · have hkf : k < f.length := by have := H4.out; omega
      obtain ⟨b, o, pv, rfl, hb, hpp, e0, e1⟩ := h.at2 hkf
      have hb' : b < w.heap.size := hb
      obtain ⟨hc, hf⟩ := bcell hX
      obtain ⟨pa, pcap, rfl⟩ := hpp.form
      have hp4 := HP.out f[k] (List.getElem_mem _)
      rw [hp4] at e0 hpp
      have HPC := fun (w' : World) (hx : Ext wr w') => pagesCopy_c (.slice pa 4 pcap) f[k].pages w' (hpp.ext (ext_trans hX hx)) hp4
      clear hp4
      have lB : w.heap.size < wr.heap.size := by obtain ⟨c, hc, _⟩ := hfl; exact heap_lt hc
      go_wp2_with fail
      have G5 : (wr.alloc (.cells #[.slice pa 4 pcap, .int .i64 f[k].worn] 106)).heap[wr.heap.size]? = some (.cells #[.slice pa 4 pcap, .int .i64 f[k].worn] 106 (0, 0)) := hg_new rfl
      have XA : Ext wr (wr.alloc (.cells #[.slice pa 4 pcap, .int .i64 f[k].worn] 106)) := ext_alloc (ext_refl _) _
      clear hc hf e0 e1
      refine wp_region_ext [4] [0, 1, 2, 3, 5, 6, 4, 7, 8] [] [9] (by kernel_rfl) (by kernel_rfl) ?late ?_
      case late => exact fun f hf => absurd hf List.not_mem_nil
      iterate 3
        refine Rob.y (v := ?_) rfl rfl (fun w1 hx hH => ?_) ?_; rotate_left
        · go_simp; first | done | rfl | exact (Bool.not_not _).symm
        simp only [Act.put, List.setIfInBounds_toArray, List.set_cons_succ, List.set_cons_zero]
      refine Rob.y (v := ?_) rfl rfl (fun w1 hx hH => ?_) ?_; rotate_left
      · (have hE : Ext _ w1 := (by first | exact hx | exact hx.1); obtain ⟨g5, gf5⟩ := cellsK (keep_ext hE G5)); go_simp; first | done | rfl
      simp only [Act.put, List.setIfInBounds_toArray, List.set_cons_succ, List.set_cons_zero]
      refine Rob.y (v := ?_) rfl rfl (fun w1 hx hH => ?_) ?_; rotate_left
      · go_simp; first | done | rfl | exact (Bool.not_not _).symm
      simp only [Act.put, List.setIfInBounds_toArray, List.set_cons_succ, List.set_cons_zero]
      refine Rob.y (v := ?_) rfl rfl (fun w1 hx hH => ?_) ?_; rotate_left
      · (have hE : Ext _ w1 := (by first | exact hx | exact hx.1); obtain ⟨g5, gf5⟩ := cellsK (keep_ext hE G5)); go_simp; first | done | rfl
      simp only [Act.put, List.setIfInBounds_toArray, List.set_cons_succ, List.set_cons_zero]
      refine Rob.c (fun lo hi v w' => ∃ B, v = .slice (some ⟨B, 0, none⟩) 4 4 ∧ lo ≤ B ∧ B < hi ∧ OwnPages w' (.slice (some ⟨B, 0, none⟩) 4 4) f[k].pages B) rfl rfl rfl (fun _ _ => ext_trans) (fun lo hi v w w' ⟨B, e, h1, h2, h3⟩ hx => ⟨B, e, h1, h2, h3.ext hx⟩) (fun w1 hx hH => ?_) (fun lo4 hi4 v4 hlo4 hhi4 hv4 => ?_)
      · unfold RunTo; go_simp; exact (HPC _ (ext_trans XA hx)).mono fun e w' ⟨B, he, hx', hB, hO⟩ => ⟨_, he, hx', B, rfl, hB, hO.lt, hO⟩
      simp only [Act.put, List.setIfInBounds_toArray, List.set_cons_succ, List.set_cons_zero]
      obtain ⟨_, b1, rfl, hb1, hb2, _⟩ := hv4
      refine Rob.y (v := ?_) rfl rfl (fun w1 hx hH => ?_) ?_; rotate_left
      · go_simp; first | done | rfl | exact (Bool.not_not _).symm
      simp only [Act.put, List.setIfInBounds_toArray, List.set_cons_succ, List.set_cons_zero]
      refine Rob.y (v := ?_) rfl rfl (fun w1 hx hH => ?_) ?_; rotate_left
      · (have hE : Ext _ w1 := (by first | exact hx | exact hx.1); obtain ⟨g5, gf5⟩ := cellsK (keep_ext hE G5)); go_simp; first | done | rfl
      simp only [Act.put, List.setIfInBounds_toArray, List.set_cons_succ, List.set_cons_zero]
      refine fin_tail (fun w3 hx3 _ => ?_)
      simp only [dstOf, List.getElem?_cons_succ, List.getElem?_cons_zero, Option.bind_some, Act.put, List.setIfInBounds_toArray, List.set_cons_succ, List.set_cons_zero, List.filterMap_cons, List.filterMap_nil]
      obtain ⟨hx3, B', hB', -, -, hO1⟩ := hx3
      injection hB' with hB'
      injection hB' with hB'
      injection hB' with hB'
      subst hB'
      have X3 := ext_trans XA hx3
      have hfl1 := hfl.ext X3
      simp only [World.alloc, Array.size_push] at hlo4
      have hth := hfl1.there (o := k * 2) (m := 2) (by omega)
      have hF := Filled.snoc (n := 2) (enc := rowC) (fun _ => rfl) (.slice (some ⟨b1, 0, none⟩) 4 4, f[k].worn) hfl1 (by rw [hrl]; omega)
      rw [hrl] at hF
      have hXn := ext_setAll (ext_trans hX X3) (Nat.le_refl _) (k * 2) (rowC (.slice (some ⟨b1, 0, none⟩) 4 4, f[k].worn))
      have HF := Lib.hid hF; have HXN := Lib.hid hXn
      have HPN : Hid (PagesAt (setAll w3 w.heap.size (k * 2) (rowC (.slice (some ⟨b1, 0, none⟩) 4 4, f[k].worn))) (rows ++ [(.slice (some ⟨b1, 0, none⟩) 4 4, f[k].worn)]) (f.take (k + 1)) (bs ++ [b1])) := Lib.hid (by
        intro i x r b2 hx hr hbi
        rw [← take_snoc f k hkf] at hx
        by_cases hik : i < k
        · rw [List.getElem?_append_left (by simp; omega)] at hx
          rw [List.getElem?_append_left (by omega)] at hr hbi
          obtain ⟨q1, q2⟩ := HPA.out i x r b2 hx hr hbi
          have := HB.out b2 (List.mem_of_getElem? hbi)
          exact ⟨q1, (q2.ext X3).keep (setAll_other _ (by omega) _ _ _)⟩
        · have hi : i = k := by
            have := (List.getElem?_eq_some_iff.1 hbi).1
            simp at this; omega
          subst hi
          rw [List.getElem?_append_right (by simp; omega)] at hx
          rw [List.getElem?_append_right (by omega)] at hr hbi
          simp [hbl] at hbi
          simp [hrl] at hr
          simp [show min i f.length = i by omega] at hx
          subst hbi; subst hr; subst hx
          exact ⟨rfl, hO1.keep (setAll_other _ (by omega) _ _ _)⟩)
      have HB2 : Hid (∀ b ∈ bs ++ [b1], w.heap.size < b) := Lib.hid (fun b hb => by
        rcases List.mem_append.1 hb with hb | hb
        · exact HB.out b hb
        · rw [List.mem_singleton] at hb; omega)
      have hnd2 : (bs ++ [b1]).Nodup := by
        rw [List.nodup_append]
        refine ⟨hnd, by simp, fun a ha b hb => ?_⟩
        rw [List.mem_singleton] at hb
        subst hb
        obtain ⟨i, hi, rfl⟩ := List.mem_iff_getElem.1 ha
        have := (HPA.out i f[i] rows[i] bs[i] (by rw [List.getElem?_take_of_lt (by omega)]; exact List.getElem?_eq_getElem (by omega)) (List.getElem?_eq_getElem (by omega)) (List.getElem?_eq_getElem hi)).2.lt
        omega
      clear hF hXn hfl1 hfl HPA HB hO1 hpp hnd HPC G5 XA
      refine wpList_store_mid rfl 106 _ _ rfl w.heap.size (k * 2) (rowC (.slice (some ⟨b1, 0, none⟩) 4 4, f[k].worn)).toArray rfl rfl hth (by kernel_rfl) (by simp [Value.oneCell']) ?_
      change wpList _ _ _ _ _ (setAll w3 w.heap.size (k * 2) (rowC (.slice (some ⟨b1, 0, none⟩) 4 4, f[k].worn)))
      generalize setAll w3 w.heap.size (k * 2) (rowC (.slice (some ⟨b1, 0, none⟩) 4 4, f[k].worn)) = w4 at *
      refine wpList_nil ?_
      go_wp2_with fail
      go_roundw
      case rel => exact ⟨k + 1, _, _, by omega, by go_num, HXN.out, HF.out, by simp [hrl], by simp [hbl], hnd2, HB2, HPN⟩
      case measure => simp [intOf]; omega
    · obtain rfl : k = 4 := by omega
      go_wp2_with fail
      obtain ⟨c, g1, g2, g3⟩ := hfl
      refine bodyPost_ret (v := .slice (some ⟨w.heap.size, 0, none⟩) 4 4) (by simp [results, Try.results85, go_sem]) rfl ⟨w.heap.size, bs, 4, rfl, hX, ⟨rows, ⟨106, 0, 0, by rw [hrl, Nat.add_zero], c, g1, g3⟩, by rw [hrl, H4.out], by rw [hbl, H4.out], ?_⟩, List.nodup_cons.2 ⟨fun hm => by have := HB.out _ hm; omega, hnd⟩, fun b hb => ?_⟩
      · have := HPA.out; rw [List.take_of_length_le (by rw [H4.out]; omega)] at this; exact this
      · rcases List.mem_cons.1 hb with rfl | hb
        · exact Nat.le_refl _
        · exact Nat.le_of_lt (HB.out b hb)

def StoreCp (w : World) (s : Store) (e : Ending) (w' : World) : Prop := ∃ f' d' L, e = .returned (.agg #[f', d']) ∧ Ext w w' ∧ OwnStore w' f' d' s L ∧ L.Nodup ∧ ∀ b ∈ L, w.heap.size ≤ b
theorem oneCell_int (xs : List Int) : ∀ v ∈ xs.flatMap intC, v.oneCell' = true := by
  intro v hv
  obtain ⟨p, _, hp⟩ := List.mem_flatMap.1 hv
  simp at hp
  subst hp; rfl

set_option maxRecDepth 20000 in
set_option maxHeartbeats 1000000 in
theorem storeCopy_c (fv dv : Value) (s : Store) (w : World) (h : StoreV w fv dv s) (h4 : s.flash.length = 4) (hp : ∀ b ∈ s.flash, b.pages.length = 4) (h6 : s.disk.length = 6) :
    Calls Try.prog 63 #[.agg #[fv, dv]] w (StoreCp w s) := by
  have hFC := fun (w' : World) (hx : Ext w w') => flashCopy_c fv s.flash w' (h.1.ext hx) h4 hp
  have hD := h.2
  obtain ⟨fa, fcap, hfv⟩ := h.1.form
  obtain ⟨da, dcap, rfl⟩ := h.2.form
  obtain ⟨b, o, rfl, hb, -⟩ := hD.at1 (k := 0) (by omega)
  have hfl := Sl.flat (n := 1) (enc := intC) (fun _ => rfl) (by omega) hD
  have hone := oneCell_int s.disk
  have hlen : (s.disk.flatMap intC).length = 6 := by rw [flat_len (n := 1) (fun _ => rfl), h6]
  have hfill := fun (w : World) (B T : Nat) (c : Array Value) (hB : w.heap[B]? = some (.cells c T (0, 0))) (hc : c.size = 6) => OwnV.filled (n := 1) (enc := intC) (fun _ => rfl) (xs := s.disk) hB (by rw [h6, hc]) 0
  rw [h6] at hfill ⊢
  have HF := Lib.hid hfill
  generalize s.disk.flatMap intC = cs at *
  have HFL := Lib.hid hfl
  have HO := Lib.hid hone
  rw [h4] at hfv
  subst hfv
  clear hfl hone hD hfill h4
  have hmk : ∀ w : World, (Instr.makeSlice 23 (.int .i64 6) (.int .i64 6)).run Try.prog w = .ok (.slice (some ⟨w.heap.size, 0, none⟩) 6 6) (w.alloc (.cells #[.int .i64 0, .int .i64 0, .int .i64 0, .int .i64 0, .int .i64 0, .int .i64 0] 3)) := fun w => by kernel_rfl
  have hb' : b < w.heap.size := hb
  go_enter Try.func63, Try.ntmps63
  go_wp2_with (refine wpList_copyN rfl _ _ 23 23 rfl 3 1 Try.underlying23 (by kernel_rfl) (w.heap.size + 1 + 1) 0 6 6 ⟨b, o, none⟩ 6 dcap rfl rfl cs (by rw [hlen]; rfl) ?src ?cells ?frz HO.out ?_)
  case src =>
    intro j v hj
    have := HFL.out j v hj
    have hadd : Addr.add ⟨b, o, none⟩ j = ⟨b, o + j, none⟩ := by unfold Addr.add; split <;> simp_all
    rw [hadd] at this ⊢
    exact cell_ext (ext_alloc (ext_alloc (ext_alloc (ext_refl w) _) _) _) this
  case cells => intro j hj; rw [cell_block (alloc_get_new (by simp)), Nat.zero_add, Array.getElem?_eq_getElem (by simp; omega)]; rfl
  case frz => intro j hj; exact frozen_block (alloc_get_new (by simp)) _
  unfold Stopped
  have G2 : (((w.alloc (.cells #[.slice fa 4 fcap, .slice (some ⟨b, o, none⟩) 6 dcap] 32)).alloc (.cells #[.slice none 0 0, .slice none 0 0] 32)).alloc (.cells #[.int .i64 0, .int .i64 0, .int .i64 0, .int .i64 0, .int .i64 0, .int .i64 0] 3)).heap[w.heap.size + 1 + 1]? = some (.cells #[.int .i64 0, .int .i64 0, .int .i64 0, .int .i64 0, .int .i64 0, .int .i64 0] 3 (0, 0)) := hg_new (by simp)
  have G1 : (((w.alloc (.cells #[.slice fa 4 fcap, .slice (some ⟨b, o, none⟩) 6 dcap] 32)).alloc (.cells #[.slice none 0 0, .slice none 0 0] 32)).alloc (.cells #[.int .i64 0, .int .i64 0, .int .i64 0, .int .i64 0, .int .i64 0, .int .i64 0] 3)).heap[w.heap.size + 1]? = some (.cells #[.slice none 0 0, .slice none 0 0] 32 (0, 0)) := hg_alloc (hg_new (by simp))
  have G0 : (((w.alloc (.cells #[.slice fa 4 fcap, .slice (some ⟨b, o, none⟩) 6 dcap] 32)).alloc (.cells #[.slice none 0 0, .slice none 0 0] 32)).alloc (.cells #[.int .i64 0, .int .i64 0, .int .i64 0, .int .i64 0, .int .i64 0, .int .i64 0] 3)).heap[w.heap.size]? = some (.cells #[.slice fa 4 fcap, .slice (some ⟨b, o, none⟩) 6 dcap] 32 (0, 0)) := hg_alloc (hg_alloc (hg_new rfl))
  have XW : Ext w (((w.alloc (.cells #[.slice fa 4 fcap, .slice (some ⟨b, o, none⟩) 6 dcap] 32)).alloc (.cells #[.slice none 0 0, .slice none 0 0] 32)).alloc (.cells #[.int .i64 0, .int .i64 0, .int .i64 0, .int .i64 0, .int .i64 0, .int .i64 0] 3)) := ext_alloc (ext_alloc (ext_alloc (ext_refl w) _) _) _
  have hsz : (((w.alloc (.cells #[.slice fa 4 fcap, .slice (some ⟨b, o, none⟩) 6 dcap] 32)).alloc (.cells #[.slice none 0 0, .slice none 0 0] 32)).alloc (.cells #[.int .i64 0, .int .i64 0, .int .i64 0, .int .i64 0, .int .i64 0, .int .i64 0] 3)).heap.size = w.heap.size + 3 := by simp
  obtain ⟨W0, hW0⟩ : ∃ W0, ((w.alloc (.cells #[.slice fa 4 fcap, .slice (some ⟨b, o, none⟩) 6 dcap] 32)).alloc (.cells #[.slice none 0 0, .slice none 0 0] 32)).alloc (.cells #[.int .i64 0, .int .i64 0, .int .i64 0, .int .i64 0, .int .i64 0, .int .i64 0] 3) = W0 := ⟨_, rfl⟩
  rw [hW0] at G0 G1 G2 XW hsz ⊢
  clear hW0
  have hO := HF.out _ _ _ _ G2 rfl
  have X1 := ext_setAll XW (B := w.heap.size + 1 + 1) (by omega) 0 cs
  have G0' := (setAll_other (w.heap.size + 1 + 1) (b := w.heap.size) (by omega) cs W0 0).trans G0
  have G1' := (setAll_other (w.heap.size + 1 + 1) (b := w.heap.size + 1) (by omega) cs W0 0).trans G1
  have hz1 : (setAll W0 (w.heap.size + 1 + 1) 0 cs).heap.size = w.heap.size + 3 := by rw [setAll_size, hsz]
  obtain ⟨W1, hW1⟩ : ∃ W1, setAll W0 (w.heap.size + 1 + 1) 0 cs = W1 := ⟨_, rfl⟩
  rw [hW1] at hO X1 G0' G1' hz1 ⊢
  clear hW1
  have HO1 := Lib.hid hO
  have HZ1 := Lib.hid hz1
  clear G0 G1 G2 hO HF HFL HO XW hsz hz1
  obtain ⟨g0, gf0⟩ := cellsK G0'
  have l0 := heap_lt G0'
  go_wp2_with fail
  refine (hFC _ X1).mono ?_; rintro e2 w2 ⟨B, bs, c2, rfl, hx2, hO2, hn2, hb2⟩
  have X2 := ext_trans X1 hx2
  have HO2 := Lib.hid hO2
  have HN2 := Lib.hid hn2
  have HB2 := Lib.hid hb2
  replace G1' := keep_ext hx2 G1'
  have hO1 := HO1.out.ext hx2
  have HO1' := Lib.hid hO1
  clear hFC hO2 hn2 hb2 g0 gf0 l0 G0' hx2 hO1 HO1
  obtain ⟨g1, gf1⟩ := cellsK G1'
  have l1 := heap_lt G1'
  go_wp2_with fail
  refine bodyPost_ret (v := .agg #[.slice (some ⟨B, 0, none⟩) 4 c2, .slice (some ⟨w.heap.size + 1 + 1, 0, none⟩) 6 6]) (by simp [results, Try.results63, go_sem, g1, gf1]) rfl ⟨_, _, B :: bs ++ [w.heap.size + 1 + 1], rfl, ?_, ⟨B, bs, w.heap.size + 1 + 1, rfl, ?_, ?_⟩, ?_, ?_⟩
  · ((repeat (first | with_reducible (refine ext_set2 ?_ ?_); focus (first | exact Nat.le_refl _ | (dsimp only; omega) | (simp; omega)) | with_reducible refine ext_alloc2 ?_)); with_reducible exact X2)
  · refine HO2.out.keep fun b hb => ?_
    have := HB2.out b hb; have := HZ1.out
    rw [setCell_other (by omega), setCell_other (by omega)]
  · exact HO1'.out.keep (by rw [setCell_other (by omega), setCell_other (by omega)])
  · rw [List.nodup_append]
    refine ⟨HN2.out, by simp, fun x hx y hy e => ?_⟩
    rw [List.mem_singleton] at hy
    have := HB2.out x hx; have := HZ1.out; omega
  · intro b hb
    rcases List.mem_append.1 hb with hb | hb
    · have := HB2.out b hb; have := HZ1.out; omega
    · rw [List.mem_singleton] at hb; omega
end Go.Bu

/- The reference's copies of blocks, stores, pairs, in memory of their own. -/
import Derived.Test.YtcainddboblpbaaSpecAll
import Derived.Test.YtcainddboblpbaaCopyI
import Derived.Test.YtcainddboblpbaaToP
set_option linter.unusedVariables false
set_option linter.unusedSimpArgs false
namespace Go.Bu
open Go Go.RowKit Go.Plan Go.Proofs

section
variable {P : Program} {l : List Oper} {ch L : List Nat} {B0 : Nat} {S C : World → Prop} {iv : List (Nat × Nat)} {H : Nat} {a : Act} {fin : (World → Prop) → List (Nat × Nat) → Nat → Act → Prop}
/-- append of a row to an empty one: a row anew -/
theorem Rob.ap0 {α : Type} {i : Nat} {o : Oper} (sz bytes : Nat) (enc : α → List Value) (hn : ∀ x, (enc x).length = sz) (xs : List α) {s x : Operand} {t e : TypeId} {b0 ad : Addr} {c : Nat} (D : World → Nat → Prop) (ho : l[i]? = some o) (hc : ch.contains i = true) (hg : Region.wanted o (yielded l.toArray a.tmps) = true)
    (hop : o.op = .call { callee := .builtin .append, args := #[s, x], argTypes := #[t, t] }) (hs : a.eval s = .slice (some b0) 0 0) (hx : a.eval x = .slice (some ad) xs.length c)
    (ht : P.underlying t = some (.slice e)) (hi : (P.info? e).bind (fun i => i.zero.map fun z => (z.cells.size, i.size, i.bytes)) = some (sz, sz, bytes)) (hsz : 0 < sz)
    (h0 : xs ≠ []) (h63 : xs.length ≤ maxLen) (hbytes : xs.length * bytes ≤ 140737488355328) (hS : ∀ w w', S w → Ext w w' → S w')
    (hsl : ∀ w1, S w1 → Sl sz (plain enc) (D w1) w1 (.slice (some ad) xs.length c) xs)
    (h : ∀ lo hi v, H ≤ lo → lo ≤ hi → (∃ w' : World, w'.ownsRow lo e sz v xs.length (xs.flatMap enc)) → Rob P l ch B0 fin L (fun w => S w ∧ w.ownsRow lo e sz v xs.length (xs.flatMap enc)) C (iv ++ [(lo, hi)]) hi (a.put o.dst v)) (hCs : ∀ w w', C w → Ext w w' → C w' := by exact fun _ _ h _ => h) :
    Rob P l ch B0 fin (i :: L) S C iv H a := by
  refine Rob.c (fun lo hi v w' => w'.ownsRow lo e sz v xs.length (xs.flatMap enc)) ho hc hg hS (fun lo hi v w w' h hx => ownsRow_ext h hx) (fun w1 hs1 hH => ?_) h hCs
  obtain ⟨inf, hi1, hi2⟩ := Option.bind_eq_some_iff.1 hi
  obtain ⟨z, hz, he⟩ := Option.map_eq_some_iff.1 hi2
  obtain ⟨hzs, he⟩ := Prod.mk.inj he
  obtain ⟨hsize, hby⟩ := Prod.mk.inj he
  have hS1 := hsl w1 hs1
  have hpos : 0 < xs.length := List.length_pos_iff.2 h0
  obtain ⟨bb, oo, rfl⟩ : ∃ bb oo, ad = ⟨bb, oo, none⟩ := by
    obtain ⟨a', cap', hv, hx'⟩ := hS1
    injection hv with e1 e2 e3
    obtain ⟨b', o', cs, ha, _⟩ := hx' 0 xs[0] (List.getElem?_eq_getElem hpos)
    rw [← e1] at ha
    injection ha with ha
    exact ⟨b', o', ha⟩
  have hfl := Sl.flat hn hsz hS1
  obtain ⟨v', w', hr, h2, h3⟩ := run_append_arg_grows (P := P) w1 t o.type e inf z sz bytes ht hi1 hz hsize hby hzs hsz b0 0 0 [] (by simp) (by simp) ⟨bb, oo, none⟩ xs.length c (xs.flatMap enc) (by rw [flat_len hn]) hfl (by omega) (by omega) (by rw [Nat.zero_add]; exact hbytes)
  unfold RunTo execOp
  simp only [hop, resolve, invoke, builtin, Sem.run_bind, Sem.run_pure, Result.andThen_ok, List.map_toArray, List.map_cons, List.map_nil, hs, hx, hr]
  refine ⟨Below.grown (ext_refl _) h3 (Nat.le_refl _) (fun k hk => by cases hk), ?_⟩
  rw [List.nil_append, Nat.zero_add] at h2
  exact h2
end

theorem OwnT.grown' {α : Type} {n : Nat} {enc : α → List Value} {e : TypeId} {w' : World} {v : Value} {xs : List α} {B : Nat} {W : World} {base m : Nat} {T : TypeId} {size : Nat} {u : Value} {ys : List Value} {w0 : World}
    (h : OwnT n enc e W v xs B) (ho : W.ownsRow base T size u m ys) (hT : e ≠ T) (hs : SA w0 W base T size u m ys w') : OwnT n enc e w' v xs B := by
  obtain ⟨o, cap, hv, c, hh, hi⟩ := h
  exact ⟨o, cap, hv, c, hs.keep ho hT hh, hi⟩
theorem rowForm {base n m : Nat} {e : TypeId} {w : World} {v : Value} {xs : List Value} (h : w.ownsRow base e n v m xs) : ∃ a cap, v = .slice a m cap := by
  rcases h.2 with ⟨rfl, h0⟩ | ⟨g, cap, cur, rfl, _⟩
  · exact ⟨none, 0, by rw [h0]⟩
  · exact ⟨_, cap, rfl⟩
/-- a row laid from N on stays where what lies from N on stays -/
theorem ownsRow_new {base N n m : Nat} {e : TypeId} {w w' : World} {v : Value} {xs : List Value} (h : w.ownsRow base e n v m xs) (hN : N ≤ base) (hk : ∀ b, N ≤ b → b < w.heap.size → w'.heap[b]? = w.heap[b]?) : w'.ownsRow base e n v m xs := by
  obtain ⟨h1, h2⟩ := h
  refine ⟨h1, h2.imp id fun ⟨g, cap, cur, hv, hb, hh, hr⟩ => ⟨g, cap, cur, hv, hb, ?_, hr⟩⟩
  rw [hk g (by omega) (heap_lt hh)]; exact hh

section
variable {P : Program} {l : List Oper} {ch L : List Nat} {B0 : Nat} {S : World → Prop} {iv : List (Nat × Nat)} {H : Nat} {a : Act} {fin : (World → Prop) → List (Nat × Nat) → Nat → Act → Prop}
  {w0 W : World} {base size n : Nat} {e : TypeId} {v : Value} {xs : List Value}
/-- the append of a new block's elements, whatever else stands -/
theorem Rob.appR {i : Nat} {o : Oper} {s x : Operand} {t : TypeId} {ob : Obj} {lo : Nat} (bytes : Nat) (cs : List Value) (m : Nat) (ho : l[i]? = some o) (hc : ch.contains i = true) (hg : Region.wanted o (yielded l.toArray a.tmps) = true)
    (hop : o.op = .call { callee := .builtin .append, args := #[s, x], argTypes := #[t, t] }) (hs : a.eval s = v) (hx : a.eval x = .slice (some ⟨lo, 0, none⟩) m m)
    (ht : P.underlying t = some (.slice e)) (hi : (P.info? e).bind (fun i => i.zero.map fun z => (z.cells.size, i.size, i.bytes)) = some (size, size, bytes)) (hsz : 0 < size)
    (hob : ob = .cells cs.toArray e (0, 0)) (hcs : cs.length = m * size) (h1 : ∀ u ∈ cs, u.oneCell' = true) (h63 : n + m ≤ maxLen) (hbytes : (n + m) * bytes ≤ 140737488355328) (hbase : base ≤ B0) (hBH : W.heap.size ≤ H) (hW : w0.heap.size = base) (hown : W.ownsRow base e size v n xs) (hlo : W.heap.size ≤ lo) (hB : B0 = W.heap.size)
    (hSA : ∀ w, S w → SA w0 W base e size v n xs w) (hSl : ∀ w, S w → w.heap[lo]? = some ob)
    (hSk : ∀ w w', S w → SA w0 W base e size v n xs w' → (∀ b, W.heap.size ≤ b → b < w.heap.size → w'.heap[b]? = w.heap[b]?) → S w')
    (h : ∀ lo' hi' v', H ≤ lo' → (∃ w' : World, w'.ownsRow base e size v' (n + m) (xs ++ cs)) → Rob P l ch B0 fin L (fun w => S w ∧ w.ownsRow base e size v' (n + m) (xs ++ cs)) (fun _ => True) (iv ++ [(lo', hi')]) hi' (a.put o.dst v')) :
    Rob P l ch B0 fin (i :: L) S (fun _ => True) iv H a := by
  have hvl : ∀ k, v.ownBlock = some k → k < W.heap.size := fun k hk => (hown.lt k hk).2
  refine ⟨o, ho, .inr ⟨hc, hg, fun lo' hi' v' w1 => w1.ownsRow base e size v' (n + m) (xs ++ cs), fun _ _ _ _ => True, ⟨fun lo' hi' v' w1 w2 h hx => ownsRow_ext h hx, fun _ _ _ _ _ _ _ => trivial⟩, fun w1 hsw _ hw => ?_, fun lo' hi' v' hh1 hh2 ⟨_, hv, _⟩ => h lo' hi' v' hh1 ⟨_, hv⟩⟩⟩
  have hSA1 := hSA w1 hsw
  have hlo1 := hSl w1 hsw
  obtain ⟨inf, hi1, hi2⟩ := Option.bind_eq_some_iff.1 hi
  obtain ⟨z, hz, he⟩ := Option.map_eq_some_iff.1 hi2
  obtain ⟨hzs, he⟩ := Prod.mk.inj he
  obtain ⟨hsize, hby⟩ := Prod.mk.inj he
  subst hob
  have hnews : ∀ j u, cs[j]? = some u → w1.cell? ((⟨lo, 0, none⟩ : Addr).add j) = some u := fun j u hu => by
    rw [Addr.add_mid, cell_block hlo1, Nat.zero_add]; simpa using hu
  obtain ⟨v', w', hr, hown', hgr, _⟩ := run_append_own (P := P) w1 base t o.type e inf z size bytes ht hi1 hz hsize hby hzs hsz v n xs hSA1.own ⟨lo, 0, none⟩ m m cs hcs hnews h1 h63 hbytes (by have := hSA1.siz; omega)
  subst hsize hby
  have hkeep := app_keeps (P := P) w1 base t o.type e inf z ht hi1 hz v n xs hSA1.own ⟨lo, 0, none⟩ m m cs hcs hnews h1 h63 hbytes hr
  unfold RunTo execOp
  simp only [hop, resolve, invoke, builtin, Sem.run_bind, Sem.run_pure, Result.andThen_ok, List.map_toArray, List.map_cons, List.map_nil, hs, hx, hr]
  have hlb : ∀ b, b < w1.heap.size → some b ≠ v.ownBlock → w'.heap[b]? = w1.heap[b]? := fun b hb hn => hgr.block b hb hn
  have hSA2 : SA w0 W base e inf.size v n xs w' := by
    refine ⟨?_, Nat.le_trans hSA1.siz hgr.size, fun b hb hn => ?_, hkeep⟩
    · have ho2 := hSA1.own
      rw [← hW] at ho2
      exact ext_grown hSA1.ext ho2 hgr
    · rw [hlb b (Nat.lt_of_lt_of_le hb hSA1.siz) hn]; exact hSA1.same b hb hn
  refine ⟨⟨hgr.size, fun b hb hbl _ => hlb b hbl fun e => ?_⟩, hSk w1 w' hsw hSA2 (fun b hb hbl => hlb b hbl fun e => ?_), hown', trivial⟩
  · have := hvl b e.symm; omega
  · have := hvl b e.symm; omega
end

def FlashTo (w : World) (f : List Block) (e : Ending) (w' : World) : Prop := ∃ v' B bs, e = .returned v' ∧ Ext w w' ∧ OwnFlash w' v' f B bs ∧ (B :: bs).Nodup ∧ ∀ b ∈ B :: bs, w.heap.size ≤ b
def RowsT (w : World) (f : List Block) (rows : List (Value × Int)) (bs : List Nat) (base : Nat) : Prop := ∀ (i : Nat) r b x, rows[i]? = some r → bs[i]? = some b → f[i]? = some x → r.2 = x.worn ∧ OwnT 5 pageC 99 w r.1 x.pages b ∧ base ≤ b

set_option maxRecDepth 20000 in
set_option maxHeartbeats 2000000 in
theorem l2Copy_c (v : Value) (f : List Block) (w : World) (h : Flash (Old w) w v f) (h4 : f.length = 4) (hp : ∀ b ∈ f, b.pages.length = 4) :
    Calls Try.prog 84 #[v] w (FlashTo w f) := by
  obtain ⟨fa, fcap, rfl⟩ := h.form
  rw [h4] at h ⊢
  have H4 := Lib.hid h4
  have HP := Lib.hid hp
  clear h4 hp
  go_enter Try.func84, Try.ntmps84
  go_wp2_with fail
  go_loopw [3, 4] (fun v i wr => ∃ (k : Nat) (rows : List (Value × Int)) (bs : List Nat), k ≤ 4 ∧ i = .int .i64 k ∧ Ext w wr ∧ wr.ownsRow w.heap.size 106 2 v k (rows.flatMap rowC) ∧ rows.length = k ∧ bs.length = k ∧ bs.Nodup ∧ Hid (RowsT wr f rows bs w.heap.size)) (fun _ i _ => 4 - (intOf i).toNat)
  case atStart =>
    exact ⟨0, [], [], by omega, rfl, ext_alloc (ext_refl _) _, ⟨rfl, .inr ⟨w.heap.size, 0, _, rfl, Nat.le_refl _, alloc_get_new rfl, Nat.le_refl _, by simp, rfl, rfl⟩⟩, rfl, rfl, List.nodup_nil, Lib.hid (fun i r b x h => by simp at h)⟩
  case round =>
    obtain ⟨k, rows, bs, hk, rfl, hX, hown, hrl, hbl, hnd, HR⟩ := hrel
    by_cases hlt : k < 4
    · have hkf : k < f.length := by have := H4.out; omega
      obtain ⟨b, o, pv, rfl, hb, hpp, e0, e1⟩ := h.at2 hkf
      have hb' : b < w.heap.size := hb
      have hp4 := HP.out f[k] (List.getElem_mem _)
      obtain ⟨pa, pcap, rfl⟩ := hpp.form
      obtain ⟨pb, po, rfl, -⟩ := hpp.at5 (k := 0) (by omega)
      have hS := fun (w' : World) (hx : Ext w w') => hpp.ext hx
      have hne : f[k].pages ≠ [] := fun e => by rw [e] at hp4; simp at hp4
      have hlR := hX.size
      go_wp2_with fail
      refine wp_region_sa hX hown [1, 7, 14, 15] [0, 2, 3, 4, 5, 6, 8, 9, 10, 11, 12, 1, 7, 13, 14, 15] [] [16] (by kernel_rfl) (by kernel_rfl) ?late ?_
      case late => exact fun f hf => absurd hf List.not_mem_nil
      iterate 3
        refine Rob.y (v := ?_) rfl rfl (fun w1 hx hH => ?_) ?_; rotate_left
        · go_simp; first | done | rfl | exact (Bool.not_not _).symm
        simp only [Act.put, List.setIfInBounds_toArray, List.set_cons_succ, List.set_cons_zero]
      refine Rob.y (v := ?_) rfl rfl (fun w1 hx hH => ?_) ?_; rotate_left
      · (have hE : Ext w w1 := (by first | exact hx.ext | exact hx.1.ext | exact hx.1.1.ext | exact hx.1.1.1.ext); obtain ⟨hcx, hfx⟩ := bcell hE); go_simp; first | done | rfl
      simp only [Act.put, List.setIfInBounds_toArray, List.set_cons_succ, List.set_cons_zero]
      refine Rob.y (v := ?_) rfl rfl (fun w1 hx hH => ?_) ?_; rotate_left
      · go_simp; first | done | rfl | exact (Bool.not_not _).symm
      simp only [Act.put, List.setIfInBounds_toArray, List.set_cons_succ, List.set_cons_zero]
      refine Rob.y (v := ?_) rfl rfl (fun w1 hx hH => ?_) ?_; rotate_left
      · (have hE : Ext w w1 := (by first | exact hx.ext | exact hx.1.ext | exact hx.1.1.ext | exact hx.1.1.1.ext); obtain ⟨hcx, hfx⟩ := bcell hE); go_simp; first | done | rfl
      simp only [Act.put, List.setIfInBounds_toArray, List.set_cons_succ, List.set_cons_zero]
      iterate 2
        refine Rob.y (v := ?_) rfl rfl (fun w1 hx hH => ?_) ?_; rotate_left
        · go_simp; first | done | rfl | exact (Bool.not_not _).symm
        simp only [Act.put, List.setIfInBounds_toArray, List.set_cons_succ, List.set_cons_zero]
      refine Rob.y (v := ?_) rfl rfl (fun w1 hx hH => ?_) ?_; rotate_left
      · (have hE : Ext w w1 := (by first | exact hx.ext | exact hx.1.ext | exact hx.1.1.ext | exact hx.1.1.1.ext); obtain ⟨hcx, hfx⟩ := bcell hE); go_simp; first | done | rfl
      simp only [Act.put, List.setIfInBounds_toArray, List.set_cons_succ, List.set_cons_zero]
      refine Rob.y (v := ?_) rfl rfl (fun w1 hx hH => ?_) ?_; rotate_left
      · go_simp; first | done | rfl | exact (Bool.not_not _).symm
      simp only [Act.put, List.setIfInBounds_toArray, List.set_cons_succ, List.set_cons_zero]
      refine Rob.y (v := ?_) rfl rfl (fun w1 hx hH => ?_) ?_; rotate_left
      · (have hE : Ext w w1 := (by first | exact hx.ext | exact hx.1.ext | exact hx.1.1.ext | exact hx.1.1.1.ext); obtain ⟨hcx, hfx⟩ := bcell hE); go_simp; first | done | rfl
      simp only [Act.put, List.setIfInBounds_toArray, List.set_cons_succ, List.set_cons_zero]
      refine Rob.al (.cells #[] 99) (fun lo => .slice (some ⟨lo, 0, none⟩) 0 0) rfl rfl rfl (fun _ _ h hx => h.stab hx) (fun w1 => by go_simp) (fun lo1 hi1 hlo1 hhi1 => ?_)
      simp only [Act.put, List.setIfInBounds_toArray, List.set_cons_succ, List.set_cons_zero]
      refine Rob.ap0 5 40 pageC (fun _ => rfl) f[k].pages (fun w => Old w) rfl rfl rfl rfl rfl (by rw [hp4]; rfl) Try.underlying104 (by kernel_rfl) (by omega) hne (by simp [maxLen]; omega) (by omega) (fun _ _ h hx => ⟨h.1.stab hx, keep_ext hx h.2⟩) (fun w1 hx => hS w1 hx.1.ext) (fun lo7 hi7 v7 hlo7 hhi7 hv7 => ?_)
      simp only [Act.put, List.setIfInBounds_toArray, List.set_cons_succ, List.set_cons_zero]
      obtain ⟨_, hv7⟩ := hv7
      rw [hp4] at hv7
      obtain ⟨a7, c7, rfl⟩ := rowForm hv7
      refine Rob.y (v := ?_) rfl rfl (fun w1 hx hH => ?_) ?_; rotate_left
      · go_simp; first | done | rfl | exact (Bool.not_not _).symm
      simp only [Act.put, List.setIfInBounds_toArray, List.set_cons_succ, List.set_cons_zero]
      refine Rob.al (.cells (rowC (.slice a7 4 c7, f[k].worn)).toArray 106) (fun lo => .slice (some ⟨lo, 0, none⟩) 1 1) rfl rfl rfl (fun _ _ h hx => ⟨⟨h.1.1.stab hx, keep_ext hx h.1.2⟩, ownsRow_ext h.2 hx⟩) (fun w1 => by go_simp) (fun lo14 hi14 hlo14 hhi14 => ?_)
      simp only [Act.put, List.setIfInBounds_toArray, List.set_cons_succ, List.set_cons_zero]
      refine Rob.appR 32 (rowC (.slice a7 4 c7, f[k].worn)) 1 rfl rfl rfl rfl rfl rfl Try.underlying30 (by kernel_rfl) (by omega) rfl rfl (by simp [Value.oneCell']) (by simp [maxLen]; omega) (by omega) hX.size (by omega) rfl hown (by omega) rfl (fun w hx => hx.1.1.1) (fun w hx => hx.2) (fun w w' hx hs hk => ⟨⟨⟨hs, (hk lo1 (by omega) (heap_lt hx.1.1.2)).trans hx.1.1.2⟩, ownsRow_new hx.1.2 (by omega) hk⟩, (hk lo14 (by omega) (heap_lt hx.2)).trans hx.2⟩) (fun lo15 hi15 v15 hlo15 hv15 => ?_)
      simp only [Act.put, List.setIfInBounds_toArray, List.set_cons_succ, List.set_cons_zero]
      refine fin_tail (fun w2 hx2 _ => ?_)
      obtain ⟨⟨⟨⟨hSA, -⟩, hO⟩, -⟩, hR⟩ := hx2
      obtain ⟨B1, hB1, hOT⟩ := OwnT.of_owns (n := 5) (enc := pageC) (fun _ => rfl) hO hne
      have hRR : w2.ownsRow w.heap.size 106 2 v15 (k + 1) ((rows ++ [((.slice a7 4 c7 : Value), f[k].worn)]).flatMap rowC) := by
        rw [List.flatMap_append]; exact hR
      have hnd2 : (bs ++ [B1]).Nodup := by
        rw [List.nodup_append]
        refine ⟨hnd, by simp, fun a ha b hb => ?_⟩
        rw [List.mem_singleton] at hb
        subst hb
        obtain ⟨i, hi, rfl⟩ := List.mem_iff_getElem.1 ha
        have := (HR.out i rows[i] bs[i] f[i] (List.getElem?_eq_getElem (by omega)) (List.getElem?_eq_getElem hi) (List.getElem?_eq_getElem (by omega))).2.1.lt
        omega
      have HR2 : Hid (RowsT w2 f (rows ++ [((.slice a7 4 c7 : Value), f[k].worn)]) (bs ++ [B1]) w.heap.size) := Lib.hid (by
        intro i r b x hr hb hx
        by_cases hik : i < k
        · rw [List.getElem?_append_left (by omega)] at hr hb
          obtain ⟨h1, h2, h3⟩ := HR.out i r b x hr hb hx
          exact ⟨h1, h2.grown' hown (by decide) hSA, h3⟩
        · have hi : i = k := by
            have := (List.getElem?_eq_some_iff.1 hb).1
            simp at this; omega
          subst hi
          rw [List.getElem?_append_right (by omega)] at hr hb
          simp [hrl, hbl] at hr hb
          rw [List.getElem?_eq_getElem hkf] at hx
          obtain rfl := Option.some.inj hx
          subst hr hb
          exact ⟨rfl, hOT, by omega⟩)
      have hE2 := hSA.ext
      clear hR hO hOT HR hSA hv7 hv15 hown hpp hS e0 e1
      simp only [dstOf, List.getElem?_cons_succ, List.getElem?_cons_zero, Option.bind_some, Act.put, List.setIfInBounds_toArray, List.set_cons_succ, List.set_cons_zero, List.filterMap_cons, List.filterMap_nil]
      go_wp2_with fail
      go_roundw
      case rel => exact ⟨k + 1, rows ++ [((.slice a7 4 c7 : Value), f[k].worn)], bs ++ [B1], by omega, by go_num, hE2, hRR, by simp [hrl], by simp [hbl], hnd2, HR2⟩
      case measure => simp [intOf]; omega
    · obtain rfl : k = 4 := by omega
      have hne : rows ≠ [] := fun h => by rw [h] at hrl; cases hrl
      obtain ⟨B, hB, hO⟩ := OwnT.of_owns (n := 2) (enc := rowC) (fun _ => rfl) (by rw [hrl]; exact hown) hne
      obtain ⟨a1, c1, rfl⟩ := rowForm hown
      go_wp2_with fail
      go_ret
      refine ⟨_, B, bs, rfl, hX, ⟨rows, hO.any, by rw [hrl, H4.out], by rw [hbl, H4.out], fun i x r b hx hr hb => ?_⟩, List.nodup_cons.2 ⟨fun hm => ?_, hnd⟩, fun b hb => ?_⟩
      · obtain ⟨h1, h2, h3⟩ := HR.out i r b x hr hb hx
        exact ⟨h1, h2.any⟩
      · obtain ⟨i, hi, he⟩ := List.mem_iff_getElem.1 hm
        have hif : i < f.length := by rw [H4.out]; omega
        obtain ⟨h1, h2, h3⟩ := HR.out i rows[i] bs[i] f[i] (List.getElem?_eq_getElem (by omega)) (List.getElem?_eq_getElem hi) (List.getElem?_eq_getElem hif)
        obtain ⟨c, hc⟩ := h2.block
        obtain ⟨c', hc'⟩ := hO.block
        rw [he, hc'] at hc
        simp at hc
      · rcases List.mem_cons.1 hb with rfl | hb
        · exact hB
        · obtain ⟨i, hi, rfl⟩ := List.mem_iff_getElem.1 hb
          have hif : i < f.length := by rw [H4.out]; omega
          exact (HR.out i rows[i] bs[i] f[i] (List.getElem?_eq_getElem (by omega)) (List.getElem?_eq_getElem hi) (List.getElem?_eq_getElem hif)).2.2

/-- a store in memory laid between lo and hi -/
def StoreM (s : Store) (lo hi : Nat) (v : Value) (w : World) : Prop := ∃ f d L, v = .agg #[f, d] ∧ OwnStore w f d s L ∧ L.Nodup ∧ ∀ b ∈ L, lo ≤ b ∧ b < hi
theorem StoreM.ext {s : Store} {lo hi : Nat} {v : Value} {w w' : World} (h : StoreM s lo hi v w) (hx : Ext w w') : StoreM s lo hi v w' := by
  obtain ⟨f, d, L, h1, h2, h3⟩ := h; exact ⟨f, d, L, h1, h2.ext hx, h3⟩
theorem StoreM.own {s : Store} {lo hi : Nat} {f d : Value} {w : World} (h : StoreM s lo hi (.agg #[f, d]) w) : ∃ L, OwnStore w f d s L ∧ L.Nodup ∧ ∀ b ∈ L, lo ≤ b ∧ b < hi := by
  obtain ⟨f2, d2, L, he, q⟩ := h
  injection he with he
  simp at he
  obtain ⟨rfl, rfl⟩ := he
  exact ⟨L, q⟩
theorem StoreM.forms {s : Store} {lo hi : Nat} {v : Value} {w : World} (h : StoreM s lo hi v w) : ∃ a n c b m k, v = .agg #[.slice a n c, .slice b m k] := by
  obtain ⟨f, d, L, rfl, hO, _⟩ := h
  obtain ⟨a, n, c, b, m, k, rfl, rfl⟩ := hO.forms
  exact ⟨a, n, c, b, m, k, rfl⟩
theorem StoreTo.to {w w' : World} {s : Store} {e : Ending} (h : StoreTo w s e w') : ∃ v, e = .returned v ∧ RetC w (StoreM s) v w' := by
  obtain ⟨f, d, L, he, hx, ho, hn, hb⟩ := h
  exact ⟨_, he, hx, f, d, L, rfl, ho, hn, fun b hm => ⟨hb b hm, ho.lt b hm⟩⟩

/-- blocks in memory laid between lo and hi -/
def FlashM (f : List Block) (lo hi : Nat) (v : Value) (w : World) : Prop := ∃ B bs, OwnFlash w v f B bs ∧ (B :: bs).Nodup ∧ ∀ b ∈ B :: bs, lo ≤ b ∧ b < hi
theorem FlashM.ext {f : List Block} {lo hi : Nat} {v : Value} {w w' : World} (h : FlashM f lo hi v w) (hx : Ext w w') : FlashM f lo hi v w' := by
  obtain ⟨B, bs, h1, h2⟩ := h; exact ⟨B, bs, h1.ext hx, h2⟩
theorem FlashTo.to {w w' : World} {f : List Block} {e : Ending} (h : FlashTo w f e w') : ∃ v, e = .returned v ∧ RetC w (FlashM f) v w' := by
  obtain ⟨v, B, bs, he, hx, ho, hn, hb⟩ := h
  exact ⟨_, he, hx, B, bs, ho, hn, fun b hm => ⟨hb b hm, ho.lt b hm⟩⟩
theorem FlashM.form {f : List Block} {lo hi : Nat} {v : Value} {w : World} (h : FlashM f lo hi v w) : ∃ a c, v = .slice a f.length c := by
  obtain ⟨B, bs, ho, _⟩ := h
  obtain ⟨o, c, hv⟩ := ho.slf
  exact ⟨_, c, hv⟩

/-- append of a row to an empty one, in straight code -/
theorem wpList_ap0 {P : Program} {w : World} {ops : Array Oper} {rest : List Oper} {o : Oper} {a : Act} {Q : Exit → Act → World → Prop} {α : Type} (sz bytes : Nat) (enc : α → List Value) (hn : ∀ x, (enc x).length = sz) (xs : List α) {s x : Operand} {t e : TypeId} {b0 ad : Addr} {n c : Nat} {D : Nat → Prop} (hgd : o.guard = none)
    (hop : o.op = .call { callee := .builtin .append, args := #[s, x], argTypes := #[t, t] }) (hs : a.eval s = .slice (some b0) 0 0) (hx : a.eval x = .slice (some ad) n c) (hnx : n = xs.length)
    (ht : P.underlying t = some (.slice e)) (hi : (P.info? e).bind (fun i => i.zero.map fun z => (z.cells.size, i.size, i.bytes)) = some (sz, sz, bytes)) (hsz : 0 < sz)
    (h0 : xs ≠ []) (h63 : xs.length ≤ maxLen) (hbytes : xs.length * bytes ≤ 140737488355328) (hS1 : Sl sz (plain enc) D w (.slice (some ad) n c) xs)
    (h : ∀ v w', Ext w w' → w'.ownsRow w.heap.size e sz v xs.length (xs.flatMap enc) → wpList P ops Q rest (a.put o.dst v) w') : wpList P ops Q (o :: rest) a w := by
  subst hnx
  obtain ⟨inf, hi1, hi2⟩ := Option.bind_eq_some_iff.1 hi
  obtain ⟨z, hz, he⟩ := Option.map_eq_some_iff.1 hi2
  obtain ⟨hzs, he⟩ := Prod.mk.inj he
  obtain ⟨hsize, hby⟩ := Prod.mk.inj he
  have hpos : 0 < xs.length := List.length_pos_iff.2 h0
  obtain ⟨bb, oo, rfl⟩ : ∃ bb oo, ad = ⟨bb, oo, none⟩ := by
    obtain ⟨a', cap', hv, hx'⟩ := hS1
    injection hv with e1 e2 e3
    obtain ⟨b', o', cs, ha, _⟩ := hx' 0 xs[0] (List.getElem?_eq_getElem hpos)
    rw [← e1] at ha
    injection ha with ha
    exact ⟨b', o', ha⟩
  have hfl := Sl.flat hn hsz hS1
  obtain ⟨v', w', hr, h2, h3⟩ := run_append_arg_grows (P := P) w t o.type e inf z sz bytes ht hi1 hz hsize hby hzs hsz b0 0 0 [] (by simp) (by simp) ⟨bb, oo, none⟩ xs.length c (xs.flatMap enc) (by rw [flat_len hn]) hfl (by omega) (by omega) (by rw [Nat.zero_add]; exact hbytes)
  rw [List.nil_append, Nat.zero_add] at h2
  have hfin := h v' w' (Below.grown (ext_refl _) h3 (Nat.le_refl _) (fun k hk => by cases hk)) h2
  refine wpList_plain hgd fun K hK' => ?_
  unfold Oper.wp
  simp [execOp, hop, resolve, invoke, builtin, hs, hx, hr, Result.andThen]
  exact hK' _ _ hfin

set_option maxRecDepth 20000 in
set_option maxHeartbeats 2000000 in
theorem l11Copy_c (fv dv : Value) (s : Store) (w : World) (h : StoreV w fv dv s) (h4 : s.flash.length = 4) (hp : ∀ b ∈ s.flash, b.pages.length = 4) (h6 : s.disk.length = 6) :
    Calls Try.prog 61 #[.agg #[fv, dv]] w (StoreTo w s) := by
  have hFC := fun (w' : World) (hx : Ext w w') => l2Copy_c fv s.flash w' (h.1.ext hx) h4 hp
  have hD := h.2
  obtain ⟨fa, fcap, hfv⟩ := h.1.form
  obtain ⟨da, dcap, rfl⟩ := h.2.form
  obtain ⟨b, o, rfl, hb, -⟩ := hD.at1 (k := 0) (by omega)
  rw [h4] at hfv
  rw [h6] at hD ⊢
  subst hfv
  have hb' : b < w.heap.size := hb
  have H6 := Lib.hid h6
  clear h h4 hp h6
  have XA : ∀ o1 o2, Ext w ((w.alloc o1).alloc o2) := fun _ _ => ext_alloc (ext_alloc (ext_refl _) _) _
  have G0 : (w.alloc (.cells #[.slice fa 4 fcap, .slice (some ⟨b, o, none⟩) 6 dcap] 32)).heap[w.heap.size]? = some (.cells #[.slice fa 4 fcap, .slice (some ⟨b, o, none⟩) 6 dcap] 32 (0, 0)) := hg_new rfl
  go_enter Try.func61, Try.ntmps61
  go_wp2_with fail
  refine wp_region_ext [2] [0, 1, 4, 5, 2] [(3, .cells #[] 3, fun b => .slice (some ⟨b, 0, none⟩) 0 0)] [6, 7, 8] (by kernel_rfl) (by kernel_rfl) ?late ?_
  case late =>
    intro f hf
    obtain rfl := List.mem_singleton.1 hf
    refine ⟨_, rfl, fun a w => ?_⟩
    go_simp
  refine Rob.y (v := ?_) rfl rfl (fun w1 hx hH => ?_) ?_; rotate_left
  · go_simp; first | done | rfl | exact (Bool.not_not _).symm
  simp only [Act.put, List.setIfInBounds_toArray, List.set_cons_succ, List.set_cons_zero]
  refine Rob.y (v := ?_) rfl rfl (fun w1 hx hH => ?_) ?_; rotate_left
  · (have hE : Ext _ w1 := (by first | exact hx | exact hx.1); obtain ⟨g0, gf0⟩ := cellsK (keep_ext hE (hg_alloc G0))); go_simp; first | done | rfl
  simp only [Act.put, List.setIfInBounds_toArray, List.set_cons_succ, List.set_cons_zero]
  refine Rob.y (v := ?_) rfl rfl (fun w1 hx hH => ?_) ?_; rotate_left
  · go_simp; first | done | rfl | exact (Bool.not_not _).symm
  simp only [Act.put, List.setIfInBounds_toArray, List.set_cons_succ, List.set_cons_zero]
  refine Rob.y (v := ?_) rfl rfl (fun w1 hx hH => ?_) ?_; rotate_left
  · (have hE : Ext _ w1 := (by first | exact hx | exact hx.1); obtain ⟨g0, gf0⟩ := cellsK (keep_ext hE (hg_alloc G0))); go_simp; first | done | rfl
  simp only [Act.put, List.setIfInBounds_toArray, List.set_cons_succ, List.set_cons_zero]
  refine Rob.c (FlashM s.flash) rfl rfl rfl (fun _ _ => ext_trans) (fun _ _ _ _ _ => fun h hx => h.ext hx) (fun w1 hx hH => ?_) (fun lo2 hi2 v2 hlo2 hhi2 hv2 => ?_)
  · unfold RunTo; go_simp; exact (hFC _ (ext_trans (XA _ _) hx)).mono fun e w' h => h.to
  simp only [Act.put, List.setIfInBounds_toArray, List.set_cons_succ, List.set_cons_zero]
  obtain ⟨_, hv2⟩ := hv2
  obtain ⟨a2, c2, rfl⟩ := hv2.form
  refine fin_one (fun w3 b3 hx3 _ hb3 hlt3 ho3 _ => ?_)
  simp only [dstOf, List.getElem?_cons_succ, List.getElem?_cons_zero, Option.bind_some, Act.put, List.setIfInBounds_toArray, List.set_cons_succ, List.set_cons_zero, List.filterMap_cons, List.filterMap_nil]
  obtain ⟨hx3, hM⟩ := hx3
  have X3 := ext_trans (XA _ _) hx3
  have G1 := keep_ext hx3 (hg_new (b := w.heap.size + 1) (by simp))
  have HM := Lib.hid hM
  have HD := hD.ext X3
  have hne : s.disk ≠ [] := fun e => by have := H6.out; rw [e] at this; simp at this
  have h6 := H6.out
  clear hFC hM hD hx3
  refine wpList_ap0 1 8 intC (fun _ => rfl) s.disk rfl rfl rfl rfl h6.symm Try.underlying23 (by kernel_rfl) (by omega) hne (by simp [maxLen]; omega) (by omega) HD (fun v4 w4 hx4 hO => ?_)
  have X4 := ext_trans X3 hx4
  replace G1 := keep_ext hx4 G1
  have hM := HM.out.ext hx4
  obtain ⟨D, hD, hOD⟩ := IRow.own hO hne
  rw [h6] at hO
  obtain ⟨a4, c4, rfl⟩ := rowForm hO
  obtain ⟨B, bs, hOF, hnd, hbs⟩ := hM
  have hlF : ∀ b ∈ B :: bs, b < w3.heap.size := by obtain ⟨B', bs', ho', _⟩ := HM.out; exact fun b hb => Nat.lt_of_lt_of_le (hbs b hb).2 (by assumption)
  have HOF := Lib.hid hOF
  have HOD := Lib.hid hOD
  have HND := Lib.hid hnd
  have HBS := Lib.hid hbs
  have s3 := X3.size
  clear HD HM hO hOF hOD hne hx4 X3 hnd hbs
  obtain ⟨g1, gf1⟩ := cellsK G1
  go_wp2
  refine bodyPost_ret (v := .agg #[.slice a2 s.flash.length c2, .slice a4 6 c4]) (by simp [results, Try.results61, go_sem, g1, gf1]) rfl ⟨_, _, B :: bs ++ [D], rfl, ?_, ⟨B, bs, D, rfl, ?_, ?_⟩, ?_, ?_⟩
  · ((repeat (first | with_reducible (refine ext_set2 ?_ ?_); focus (first | exact Nat.le_refl _ | (dsimp only; omega) | (simp; omega)) | with_reducible refine ext_alloc2 ?_)); with_reducible exact X4)
  · refine HOF.out.keep fun b hb => ?_
    have := HBS.out b hb
    simp at hlo2
    rw [setCell_other (by omega), setCell_other (by omega)]
  · simp at hb3
    have := HOD.out.keep (w' := (w4.setCell ⟨w.heap.size + 1, 0, none⟩ (.slice a2 s.flash.length c2)).setCell ⟨w.heap.size + 1, 1, none⟩ (.slice a4 6 c4)) (by rw [setCell_other (by omega), setCell_other (by omega)])
    exact this
  · rw [List.nodup_append]
    refine ⟨HND.out, by simp, fun x hx y hy e => ?_⟩
    rw [List.mem_singleton] at hy
    have := hlF x hx; omega
  · intro b hb
    simp at hlo2
    rcases List.mem_append.1 hb with hb | hb
    · have := HBS.out b hb; omega
    · rw [List.mem_singleton] at hb; omega

set_option maxRecDepth 20000 in
set_option maxHeartbeats 2000000 in
theorem l23Copy_c (f d g e : Value) (p : Pair) (w : World) (hA : StoreV w f d p.A) (hB : StoreV w g e p.B) (hsA : p.A.flash.length = 4) (hpA : ∀ b ∈ p.A.flash, b.pages.length = 4) (h6A : p.A.disk.length = 6) (hsB : p.B.flash.length = 4) (hpB : ∀ b ∈ p.B.flash, b.pages.length = 4) (h6B : p.B.disk.length = 6) :
    Calls Try.prog 37 #[.agg #[f, d, g, e, .int .i64 p.lost]] w (PairTo w p) := by
  have hC1 := fun (w' : World) (hx : Ext w w') => l11Copy_c f d p.A w' (hA.ext hx) hsA hpA h6A
  have hC2 := fun (w' : World) (hx : Ext w w') => l11Copy_c g e p.B w' (hB.ext hx) hsB hpB h6B
  obtain ⟨a1, n1, rfl⟩ := hA.1.form
  obtain ⟨a2, n2, rfl⟩ := hA.2.form
  obtain ⟨a3, n3, rfl⟩ := hB.1.form
  obtain ⟨a4, n4, rfl⟩ := hB.2.form
  clear hA hB hsA hpA h6A hsB hpB h6B
  have XA : ∀ o1 o2, Ext w ((w.alloc o1).alloc o2) := fun _ _ => ext_alloc (ext_alloc (ext_refl _) _) _
  have G0 : (w.alloc (.cells #[.slice a1 p.A.flash.length n1, .slice a2 p.A.disk.length n2, .slice a3 p.B.flash.length n3, .slice a4 p.B.disk.length n4, .int .i64 p.lost] 34)).heap[w.heap.size]? = some (.cells #[.slice a1 p.A.flash.length n1, .slice a2 p.A.disk.length n2, .slice a3 p.B.flash.length n3, .slice a4 p.B.disk.length n4, .int .i64 p.lost] 34 (0, 0)) := hg_new rfl
  go_enter Try.func37, Try.ntmps37
  go_wp2_with fail
  refine wp_region_ext [2, 5] [0, 1, 3, 4, 6, 7, 2, 5, 8] [] [9] (by kernel_rfl) (by kernel_rfl) ?late ?_
  case late => exact fun f hf => absurd hf List.not_mem_nil
  refine Rob.y (v := ?_) rfl rfl (fun w1 hx hH => ?_) ?_; rotate_left
  · go_simp; first | done | rfl | exact (Bool.not_not _).symm
  simp only [Act.put, List.setIfInBounds_toArray, List.set_cons_succ, List.set_cons_zero]
  refine Rob.y (v := ?_) rfl rfl (fun w1 hx hH => ?_) ?_; rotate_left
  · (have hE : Ext _ w1 := (by first | exact hx | exact hx.1 | exact hx.1.1); obtain ⟨g0, gf0⟩ := cellsK (keep_ext hE (hg_alloc G0))); go_simp; first | done | rfl
  simp only [Act.put, List.setIfInBounds_toArray, List.set_cons_succ, List.set_cons_zero]
  refine Rob.y (v := ?_) rfl rfl (fun w1 hx hH => ?_) ?_; rotate_left
  · go_simp; first | done | rfl | exact (Bool.not_not _).symm
  simp only [Act.put, List.setIfInBounds_toArray, List.set_cons_succ, List.set_cons_zero]
  refine Rob.y (v := ?_) rfl rfl (fun w1 hx hH => ?_) ?_; rotate_left
  · (have hE : Ext _ w1 := (by first | exact hx | exact hx.1 | exact hx.1.1); obtain ⟨g0, gf0⟩ := cellsK (keep_ext hE (hg_alloc G0))); go_simp; first | done | rfl
  simp only [Act.put, List.setIfInBounds_toArray, List.set_cons_succ, List.set_cons_zero]
  refine Rob.y (v := ?_) rfl rfl (fun w1 hx hH => ?_) ?_; rotate_left
  · go_simp; first | done | rfl | exact (Bool.not_not _).symm
  simp only [Act.put, List.setIfInBounds_toArray, List.set_cons_succ, List.set_cons_zero]
  refine Rob.y (v := ?_) rfl rfl (fun w1 hx hH => ?_) ?_; rotate_left
  · (have hE : Ext _ w1 := (by first | exact hx | exact hx.1 | exact hx.1.1); obtain ⟨g0, gf0⟩ := cellsK (keep_ext hE (hg_alloc G0))); go_simp; first | done | rfl
  simp only [Act.put, List.setIfInBounds_toArray, List.set_cons_succ, List.set_cons_zero]
  refine Rob.c (StoreM p.A) rfl rfl rfl (fun _ _ => (by (first | exact ext_trans | exact fun h k => ⟨ext_trans h.1 k, h.2.ext k⟩))) (fun _ _ _ _ _ => fun h hx => h.ext hx) (fun w1 hx hH => ?_) (fun lo2 hi2 v2 hlo2 hhi2 hv2 => ?_)
  · unfold RunTo; go_simp; exact ((hC1 _ (ext_trans (XA _ _) hx))).mono fun e w' h => h.to
  simp only [Act.put, List.setIfInBounds_toArray, List.set_cons_succ, List.set_cons_zero]
  obtain ⟨_, hv2⟩ := hv2
  obtain ⟨b1, m1, c1, b2, m2, c2, rfl⟩ := hv2.forms
  refine Rob.c (StoreM p.B) rfl rfl rfl (fun _ _ => (by (first | exact ext_trans | exact fun h k => ⟨ext_trans h.1 k, h.2.ext k⟩))) (fun _ _ _ _ _ => fun h hx => h.ext hx) (fun w1 hx hH => ?_) (fun lo5 hi5 v5 hlo5 hhi5 hv5 => ?_)
  · unfold RunTo; go_simp; exact ((hC2 _ (ext_trans (XA _ _) hx.1))).mono fun e w' h => h.to
  simp only [Act.put, List.setIfInBounds_toArray, List.set_cons_succ, List.set_cons_zero]
  obtain ⟨_, hv5⟩ := hv5
  obtain ⟨b3, m3, c3, b4, m4, c4, rfl⟩ := hv5.forms
  refine Rob.y (v := ?_) rfl rfl (fun w1 hx hH => ?_) ?_; rotate_left
  · go_simp; first | done | rfl | exact (Bool.not_not _).symm
  simp only [Act.put, List.setIfInBounds_toArray, List.set_cons_succ, List.set_cons_zero]
  refine fin_tail (fun w3 hx3 _ => ?_)
  simp only [dstOf, List.getElem?_cons_succ, List.getElem?_cons_zero, Option.bind_some, Act.put, List.setIfInBounds_toArray, List.set_cons_succ, List.set_cons_zero, List.filterMap_cons, List.filterMap_nil]
  obtain ⟨⟨hx3, hM1⟩, hM2⟩ := hx3
  obtain ⟨L, hO1, hn1, hb1⟩ := hM1.own
  obtain ⟨K, hO2, hn2, hb2⟩ := hM2.own
  have X3 := ext_trans (XA _ _) hx3
  have G1 := keep_ext hx3 (hg_new (b := w.heap.size + 1) (by simp))
  obtain ⟨g1, gf1⟩ := cellsK G1
  have HO1 := Lib.hid hO1
  have HO2 := Lib.hid hO2
  have HN1 := Lib.hid hn1
  have HN2 := Lib.hid hn2
  simp at hlo2
  have HB1 : Hid (∀ b ∈ L, w.heap.size + 2 ≤ b ∧ b < hi2) := Lib.hid (fun b hb => by have := hb1 b hb; omega)
  have HB2 : Hid (∀ b ∈ K, w.heap.size + 2 ≤ b ∧ hi2 ≤ b) := Lib.hid (fun b hb => by have := hb2 b hb; omega)
  clear hC1 hC2 hM1 hM2 hO1 hO2 hn1 hn2 hb1 hb2 G0 hx3 hv2 hv5
  go_wp2
  refine bodyPost_ret (v := .agg #[.slice b1 m1 c1, .slice b2 m2 c2, .slice b3 m3 c3, .slice b4 m4 c4, .int .i64 p.lost]) (by simp [results, Try.results37, go_sem, g1, gf1]) rfl ⟨_, _, _, _, L, K, rfl, ?_, ?_, ?_, ?_, ?_⟩
  · ((repeat (first | with_reducible (refine ext_set2 ?_ ?_); focus (first | exact Nat.le_refl _ | (dsimp only; omega) | (simp; omega)) | with_reducible refine ext_alloc2 ?_)); with_reducible exact X3)
  · refine HO1.out.keep fun b hb => ?_
    have := HB1.out b hb
    iterate 5 rw [setCell_other (by omega)]
  · refine HO2.out.keep fun b hb => ?_
    have := HB2.out b hb
    iterate 5 rw [setCell_other (by omega)]
  · rw [List.nodup_append]
    refine ⟨HN1.out, HN2.out, fun x hx y hy e => ?_⟩
    have := HB1.out x hx; have := HB2.out y hy; omega
  · intro b hb
    rcases List.mem_append.1 hb with hb | hb
    · have := HB1.out b hb; omega
    · have := HB2.out b hb; omega
end Go.Bu

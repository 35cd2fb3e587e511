/- Rows of the call's own that grow by append, also within a region that draws its order. -/
import Derived.Test.YtcainddboblpbaaNew
import Derived.Test.YtcainddboblpbaaKit
set_option linter.unusedVariables false
set_option linter.unusedSimpArgs false
namespace Go.Bu
open Go Go.RowKit Go.Plan Go.Proofs

theorem ok_inj {α : Type} {x : Result α} {a b : α} {w w' : World} (h1 : x = .ok a w) (h2 : x = .ok b w') : a = b ∧ w = w' := by
  rw [h1] at h2; injection h2 with h3 h4; exact ⟨h3, h4⟩

/-- an append leaves the row that it was given as it was, as far as that goes -/
theorem app_keeps {P : Program} (w : World) (base : Nat) (t ty e : TypeId) (i : TypeInfo) (z : Value) (ht : P.underlying t = some (.slice e)) (hi : P.info? e = some i) (hz : i.zero = some z)
    (v : Value) (n : Nat) (xs : List Value) (hown : w.ownsRow base e i.size v n xs)
    (a : Addr) (m c : Nat) (news : List Value) (hl : news.length = m * i.size) (hnews : ∀ j u, news[j]? = some u → w.cell? (a.add j) = some u) (h1 : ∀ u ∈ news, u.oneCell' = true)
    (h63 : n + m ≤ maxLen) (hbytes : (n + m) * i.bytes ≤ 140737488355328) {v' : Value} {w' : World} (hr : (Builtin.append_ #[t, t] ty #[v, .slice (some a) m c]).run P w = .ok v' w') : w'.ownsRow base e i.size v n xs := by
  have hsmall : n + m ≤ 9223372036854775807 := by simp only [maxLen] at h63; omega
  have hown0 := hown
  obtain ⟨hlen, hv⟩ := hown
  rcases hv with ⟨rfl, rfl⟩ | ⟨g, cap, cur, rfl, hbg, hg, hnc, hcm, hcs, htake⟩
  · exact ⟨hlen, .inl ⟨rfl, rfl⟩⟩
  · refine ⟨hlen, .inr ?_⟩
    by_cases hroom : n + m ≤ cap
    · have hfit : n * i.size + news.length ≤ cur.size := by rw [hl, hcs, ← Nat.add_mul]; exact Nat.mul_le_mul_right _ hroom
      obtain ⟨_, rfl⟩ := ok_inj hr (run_append_room (P := P) w t ty e i ht hi g n cap cur hg a m c news hl hnews h1 hroom hfit)
      refine ⟨g, cap, _, rfl, hbg, setRow_heap w g cur _ e _ hg, hnc, hcm, ?_, ?_⟩
      · simp only [List.size_toArray, List.length_append, List.length_take, List.length_drop, Array.length_toList]
        omega
      · have hl2 : (cur.toList.take (n * i.size)).length = n * i.size := by rw [htake, hlen]
        rw [List.append_assoc, List.take_append_of_le_length (by omega), List.take_of_length_le (by omega), htake]
    · obtain ⟨_, rfl⟩ := ok_inj hr (run_append_grow (P := P) w t ty e i z ht hi hz ⟨g, 0, none⟩ n cap xs hlen (hown0.cells (g := g) rfl) a m c news hl hnews (by omega) (by omega) (growslice_fits (by omega) hbytes))
      exact ⟨g, cap, cur, rfl, hbg, keep_ext (ext_alloc (ext_drew w) _) hg, hnc, hcm, hcs, htake⟩

/-- a region within which one row of the call's own grows: everything else that stood stays -/
structure SA (w0 W : World) (base : Nat) (e : TypeId) (size : Nat) (v : Value) (n : Nat) (xs : List Value) (w1 : World) : Prop where
  ext : Ext w0 w1
  siz : W.heap.size ≤ w1.heap.size
  same : ∀ b, b < W.heap.size → some b ≠ v.ownBlock → w1.heap[b]? = W.heap[b]?
  own : w1.ownsRow base e size v n xs

section
variable {w0 W w1 w2 : World} {base size n : Nat} {e : TypeId} {v : Value} {xs : List Value}
theorem SA.stab (h : SA w0 W base e size v n xs w1) (hx : Ext w1 w2) : SA w0 W base e size v n xs w2 :=
  ⟨ext_trans h.ext hx, Nat.le_trans h.siz hx.size, fun b hb hn => by rw [hx.block b (Nat.lt_of_lt_of_le hb h.siz)]; exact h.same b hb hn, ownsRow_ext h.own hx⟩
theorem SA.start (hx : Ext w0 W) (ho : W.ownsRow base e size v n xs) : SA w0 W base e size v n xs W.drew :=
  ⟨ext_trans hx (ext_drew W), (ext_drew W).size, fun b hb _ => (ext_drew W).block b hb, ownsRow_ext ho (ext_drew W)⟩
/-- a block of another type stays -/
theorem SA.keep (h : SA w0 W base e size v n xs w1) (ho : W.ownsRow base e size v n xs) {b : Nat} {c : Array Value} {T : TypeId} {fr : Nat × Nat} (hT : T ≠ e) (hb : W.heap[b]? = some (.cells c T fr)) : w1.heap[b]? = some (.cells c T fr) := by
  rw [h.same b (heap_lt hb) ?_]; exact hb
  intro hB
  rcases ho.2 with ⟨rfl, _⟩ | ⟨g, cap, cur, rfl, _, hh, _⟩
  · simp [Value.ownBlock] at hB
  · simp [Value.ownBlock] at hB
    subst hB
    rw [hh] at hb
    simp at hb
    exact hT hb.2.1.symm
end

section
variable {P : Program} {l : List Oper} {Q : Exit → Act → World → Prop} {ch L heads : List Nat} {lates : Lates} {tail : List Nat} {B0 : Nat} {S C : World → Prop} {iv : List (Nat × Nat)} {H : Nat} {a : Act}
  {fin : (World → Prop) → List (Nat × Nat) → Nat → Act → Prop} {w0 W : World} {base size n : Nat} {e : TypeId} {v : Value} {xs : List Value}

theorem wp_region_sa (hx : Ext w0 W) (ho : W.ownsRow base e size v n xs) (ch heads : List Nat) (lates : Lates) (tail : List Nat) {id : Nat} {a : Act} (hm : P.follows .mixedOrders = true)
    (hok : okPlan l ch heads (lates.map (·.1)) tail = true)
    (hlate : ∀ f ∈ lates, ∃ o, l[f.1]? = some o ∧ ∀ (a : Act) (w : World), (execOp a.eval o).run P w = .ok (.value (f.2.2 w.heap.size)) (w.alloc f.2.1))
    (h : Rob P l ch W.heap.size (Fin P l Q W.heap.size lates tail) heads (SA w0 W base e size v n xs) (fun _ => True) [] W.heap.size a) : (Code.region id l.toArray true).wp P Q a W :=
  wp_region_plan ch heads lates tail hm hok hlate _ (SA.start hx ho) (fun _ _ h1 h2 => h1.stab h2) h

/-- an operation that lays one block -/
theorem Rob.al {i : Nat} {o : Oper} (ob : Obj) (f : Nat → Value) (ho : l[i]? = some o) (hc : ch.contains i = true) (hg : Region.wanted o (yielded l.toArray a.tmps) = true)
    (hS : ∀ w w', S w → Ext w w' → S w') (hrun : ∀ w1, (execOp a.eval o).run P w1 = .ok (.value (f w1.heap.size)) (w1.alloc ob))
    (h : ∀ lo hi, H ≤ lo → lo < hi → Rob P l ch B0 fin L (fun w => S w ∧ w.heap[lo]? = some ob) C (iv ++ [(lo, hi)]) hi (a.put o.dst (f lo))) (hCs : ∀ w w', C w → Ext w w' → C w' := by exact fun _ _ h _ => h) : Rob P l ch B0 fin (i :: L) S C iv H a := by
  refine ⟨o, ho, .inr ⟨hc, hg, fun lo hi v w1 => v = f lo ∧ lo < hi ∧ w1.heap[lo]? = some ob, fun _ _ _ => C, ⟨fun lo hi v w1 w2 h hx => ⟨h.1, h.2.1, keep_ext hx h.2.2⟩, fun _ _ _ => hCs⟩, fun w1 hs hcw hw => ?_, fun lo hi v h1 h2 ⟨_, ⟨hv, hlt, _⟩, _⟩ => ?_⟩⟩
  · unfold RunTo
    rw [hrun w1]
    exact ⟨.of_ext (ext_alloc (ext_refl _) _), hS _ _ hs (ext_alloc (ext_refl _) _), ⟨rfl, by simp, hg_new rfl⟩, hCs _ _ hcw (ext_alloc (ext_refl _) _)⟩
  · subst hv
    have := h lo hi h1 hlt
    rw [show (fun w1 => S w1 ∧ f lo = f lo ∧ lo < hi ∧ w1.heap[lo]? = some ob) = (fun w1 => S w1 ∧ w1.heap[lo]? = some ob) from funext fun w => by simp [hlt]]
    exact this

/-- the append itself, of a new block's elements -/
theorem Rob.app {i : Nat} {o : Oper} {s x : Operand} {t : TypeId} {ob : Obj} {lo : Nat} (bytes : Nat) (cs : List Value) (m : Nat) (ho : l[i]? = some o) (hc : ch.contains i = true) (hg : Region.wanted o (yielded l.toArray a.tmps) = true)
    (hop : o.op = .call { callee := .builtin .append, args := #[s, x], argTypes := #[t, t] }) (hs : a.eval s = v) (hx : a.eval x = .slice (some ⟨lo, 0, none⟩) m m)
    (ht : P.underlying t = some (.slice e)) (hi : (P.info? e).bind (fun i => i.zero.map fun z => (z.cells.size, i.size, i.bytes)) = some (size, size, bytes)) (hsz : 0 < size)
    (hob : ob = .cells cs.toArray e (0, 0)) (hcs : cs.length = m * size) (h1 : ∀ u ∈ cs, u.oneCell' = true) (h63 : n + m ≤ maxLen) (hbytes : (n + m) * bytes ≤ 140737488355328) (hbase : base ≤ B0) (hBH : W.heap.size ≤ H) (hW : w0.heap.size = base) (hown : W.ownsRow base e size v n xs) (hlo : W.heap.size ≤ lo) (hB : B0 = W.heap.size)
    (h : ∀ lo' hi' v', H ≤ lo' → Rob P l ch B0 fin L (fun w => (SA w0 W base e size v n xs w ∧ w.heap[lo]? = some ob) ∧ w.ownsRow base e size v' (n + m) (xs ++ cs)) (fun _ => True) (iv ++ [(lo', hi')]) hi' (a.put o.dst v')) :
    Rob P l ch B0 fin (i :: L) (fun w => SA w0 W base e size v n xs w ∧ w.heap[lo]? = some ob) (fun _ => True) iv H a := by
  have hvl : ∀ k, v.ownBlock = some k → k < W.heap.size := fun k hk => (hown.lt k hk).2
  refine ⟨o, ho, .inr ⟨hc, hg, fun lo' hi' v' w1 => w1.ownsRow base e size v' (n + m) (xs ++ cs), fun _ _ _ _ => True, ⟨fun lo' hi' v' w1 w2 h hx => ownsRow_ext h hx, fun _ _ _ _ _ _ _ => trivial⟩, fun w1 hsw _ hw => ?_, fun lo' hi' v' hh1 hh2 ⟨_, hv, _⟩ => h lo' hi' v' hh1⟩⟩
  obtain ⟨hSA, hlo1⟩ := hsw
  obtain ⟨inf, hi1, hi2⟩ := Option.bind_eq_some_iff.1 hi
  obtain ⟨z, hz, he⟩ := Option.map_eq_some_iff.1 hi2
  obtain ⟨hzs, he⟩ := Prod.mk.inj he
  obtain ⟨hsize, hby⟩ := Prod.mk.inj he
  subst hob
  have hnews : ∀ j u, cs[j]? = some u → w1.cell? ((⟨lo, 0, none⟩ : Addr).add j) = some u := fun j u hu => by
    rw [Addr.add_mid, cell_block hlo1, Nat.zero_add]; simpa using hu
  obtain ⟨v', w', hr, hown', hgr, _⟩ := run_append_own (P := P) w1 base t o.type e inf z size bytes ht hi1 hz hsize hby hzs hsz v n xs hSA.own ⟨lo, 0, none⟩ m m cs hcs hnews h1 h63 hbytes (by have := hSA.siz; omega)
  subst hsize hby
  have hkeep := app_keeps (P := P) w1 base t o.type e inf z ht hi1 hz v n xs hSA.own ⟨lo, 0, none⟩ m m cs hcs hnews h1 h63 hbytes hr
  unfold RunTo execOp
  simp only [hop, resolve, invoke, builtin, Sem.run_bind, Sem.run_pure, Result.andThen_ok, List.map_toArray, List.map_cons, List.map_nil, hs, hx, hr]
  have hlb : ∀ b, b < w1.heap.size → some b ≠ v.ownBlock → w'.heap[b]? = w1.heap[b]? := fun b hb hn => hgr.block b hb hn
  refine ⟨⟨hgr.size, fun b hb hbl _ => hlb b hbl fun e => ?_⟩, ⟨⟨?_, Nat.le_trans hSA.siz hgr.size, fun b hb hn => ?_, hkeep⟩, ?_⟩, hown', trivial⟩
  · have := hvl b e.symm; omega
  · have ho2 := hSA.own
    rw [← hW] at ho2
    exact ext_grown hSA.ext ho2 hgr
  · rw [hlb b (Nat.lt_of_lt_of_le hb hSA.siz) hn]; exact hSA.same b hb hn
  · rw [hlb lo (heap_lt hlo1) fun e => ?_]
    · exact hlo1
    · have := hvl lo e.symm; omega
end
end Go.Bu

/- New flashes, stores, pairs, of both sides. -/
import Derived.Test.YtcainddboblpbaaOwn2
import Derived.Laws.AppendOwn
set_option linter.unusedVariables false
set_option linter.unusedSimpArgs false
namespace Go.Bu
open Go Go.RowKit Go.Plan Go.Proofs

theorem flat_get {α : Type} {n : Nat} {enc : α → List Value} (hn : ∀ x, (enc x).length = n) : ∀ (xs : List α) (i : Nat) (x : α) (j : Nat) (u : Value), xs[i]? = some x → (enc x)[j]? = some u → (xs.flatMap enc)[i * n + j]? = some u
  | [], i, x, j, u, h, _ => by simp at h
  | y :: ys, 0, x, j, u, h, hu => by
    simp at h; subst h
    have hj := (List.getElem?_eq_some_iff.1 hu).1
    rw [List.flatMap_cons, Nat.zero_mul, Nat.zero_add, List.getElem?_append_left hj]; exact hu
  | y :: ys, i + 1, x, j, u, h, hu => by
    rw [List.flatMap_cons, List.getElem?_append_right (by rw [hn, Nat.succ_mul]; omega), hn, show (i + 1) * n + j - n = i * n + j by rw [Nat.succ_mul]; omega]
    exact flat_get hn ys i x j u (by simpa using h) hu

/-- what an append has made, as a row of the call's own -/
theorem OwnT.of_owns {α : Type} {n : Nat} {enc : α → List Value} {e : TypeId} (hn : ∀ x, (enc x).length = n) {base : Nat} {w : World} {v : Value} {xs : List α} (h : w.ownsRow base e n v xs.length (xs.flatMap enc)) (h0 : xs ≠ []) : ∃ B, base ≤ B ∧ OwnT n enc e w v xs B := by
  obtain ⟨h1, h2⟩ := h
  rcases h2 with ⟨_, h2⟩ | ⟨g, cap, cur, hv, hb, hh, hc, hm, hs, ht⟩
  · exact absurd (List.length_eq_zero_iff.1 h2) h0
  · refine ⟨g, hb, 0, cap - xs.length, by rw [hv]; congr 1; omega, cur, hh, fun i x hx j u hu => ?_⟩
    have := flat_get hn xs i x j u hx hu
    rw [← ht] at this
    have hlt := (List.getElem?_eq_some_iff.1 this).1
    rw [List.length_take] at hlt
    rw [List.getElem?_take_of_lt (by omega)] at this
    rw [Nat.zero_add]
    simpa using this

/-- append of one element to a row of the call's own -/
theorem wpList_app {P : Program} {w : World} {ops : Array Oper} {rest : List Oper} {o : Oper} {a : Act} {Q : Exit → Act → World → Prop} (hgd : o.guard = none) (s x : Operand) (t : TypeId)
    (ho : o.op = .call { callee := .builtin .append, args := #[s, x], argTypes := #[t, t] })
    (base : Nat) (e : TypeId) (size bytes : Nat) (ht : P.underlying t = some (.slice e)) (hi : (P.info? e).bind (fun i => i.zero.map fun z => (z.cells.size, i.size, i.bytes)) = some (size, size, bytes)) (hsz : 0 < size)
    (v : Value) (n : Nat) (xs : List Value) (hs : a.eval s = v) (hown : w.ownsRow base e size v n xs)
    (ad : Addr) (m c : Nat) (news : List Value) (hx : a.eval x = .slice (some ad) m c) (hl : news.length = m * size) (hnews : ∀ j u, news[j]? = some u → w.cell? (ad.add j) = some u) (h1 : ∀ u ∈ news, u.oneCell' = true)
    (h63 : n + m ≤ maxLen) (hbytes : (n + m) * bytes ≤ 140737488355328) (hbase : base ≤ w.heap.size)
    (h : ∀ v' w', w'.ownsRow base e size v' (n + m) (xs ++ news) → w.grownBy w' v.ownBlock → wpList P ops Q rest (a.put o.dst v') w') : wpList P ops Q (o :: rest) a w := by
  obtain ⟨i, hi1, hi2⟩ := Option.bind_eq_some_iff.1 hi
  obtain ⟨z, hz, he⟩ := Option.map_eq_some_iff.1 hi2
  obtain ⟨hzs, he⟩ := Prod.mk.inj he
  obtain ⟨hsize, hby⟩ := Prod.mk.inj he
  exact wpList_append_own w hgd s x t ho base e i z size bytes ht hi1 hz hsize hby hzs hsz v n xs hs hown ad m c news hx hl hnews h1 h63 hbytes hbase fun v' w' h2 h3 _ => h v' w' h2 h3

def zPage : Page := ⟨0, ⟨0, 0, 0, 0⟩⟩
def newBlock : Block := ⟨[zPage, zPage, zPage, zPage], 0⟩
def newFlash : List Block := [newBlock, newBlock, newBlock, newBlock]
def newStore : Store := ⟨newFlash, [0, 0, 0, 0, 0, 0]⟩

/-- pages that a make has laid -/
theorem OwnT.zeros {w : World} {B T : Nat} (h : w.heap[B]? = some (.cells (madeCells #[.int .i64 0, .int .i64 0, .int .i64 0, .int .i64 0, .int .i64 0] 20) T (0, 0))) : OwnT 5 pageC T w (.slice (some ⟨B, 0, none⟩) 4 4) newBlock.pages B := by
  refine ⟨0, 0, rfl, _, h, fun i x hx j u hu => ?_⟩
  have hi : i < 4 := (List.getElem?_eq_some_iff.1 hx).1
  have hxz : x = zPage := by
    match i, hi with
    | 0, _ => simpa [newBlock] using hx.symm
    | 1, _ => simpa [newBlock] using hx.symm
    | 2, _ => simpa [newBlock] using hx.symm
    | 3, _ => simpa [newBlock] using hx.symm
  subst hxz
  have hj : j < 5 := (List.getElem?_eq_some_iff.1 hu).1
  have hu0 : u = .int .i64 0 := by
    match j, hj with
    | 0, _ => simpa [zPage] using hu.symm
    | 1, _ => simpa [zPage] using hu.symm
    | 2, _ => simpa [zPage] using hu.symm
    | 3, _ => simpa [zPage] using hu.symm
    | 4, _ => simpa [zPage] using hu.symm
  subst hu0
  have hlt : 0 + i * 5 + j < 20 := by omega
  generalize 0 + i * 5 + j = m at hlt
  simp only [madeCells, Array.getElem?_map, Array.getElem?_range, hlt, if_true, Option.map_some]
  have hm : m % 5 < 5 := Nat.mod_lt _ (by omega)
  show some ((#[Value.int .i64 0, .int .i64 0, .int .i64 0, .int .i64 0, .int .i64 0] : Array Value)[m % 5]!) = _
  generalize m % 5 = q at hm
  match q, hm with
  | 0, _ => rfl
  | 1, _ => rfl
  | 2, _ => rfl
  | 3, _ => rfl
  | 4, _ => rfl

/-- a row that is owned stays as it is behind an append to another of another type -/
theorem OwnT.grown {α : Type} {n : Nat} {enc : α → List Value} {T e : TypeId} {w w' : World} {v u : Value} {xs : List α} {B base size m : Nat} {ys : List Value} (h : OwnT n enc T w v xs B) (hu : w.ownsRow base e size u m ys) (hT : T ≠ e) (hg : w.grownBy w' u.ownBlock) : OwnT n enc T w' v xs B := by
  refine h.keep (hg.block B h.lt fun hB => ?_)
  obtain ⟨c, hc⟩ := h.block
  rcases hu.2 with ⟨rfl, _⟩ | ⟨g, cap, cur, rfl, _, hh, _⟩
  · simp [Value.ownBlock] at hB
  · simp [Value.ownBlock] at hB
    subst hB
    rw [hh] at hc
    simp at hc
    exact hT hc.2.symm

theorem ext_grown {w0 w w' : World} {v : Value} {e : TypeId} {size n : Nat} {xs : List Value} (h : Ext w0 w) (ho : w.ownsRow w0.heap.size e size v n xs) (hg : w.grownBy w' v.ownBlock) : Ext w0 w' := by
  refine Below.grown h hg h.size fun k hk => ?_
  rcases ho.2 with ⟨rfl, _⟩ | ⟨g, cap, cur, rfl, hb, _⟩
  · simp [Value.ownBlock] at hk
  · simp [Value.ownBlock] at hk
    subst hk; exact hb

theorem ownsRow_ext {w w' : World} {base : Nat} {e : TypeId} {size n : Nat} {v : Value} {xs : List Value} (h : w.ownsRow base e size v n xs) (hx : Ext w w') : w'.ownsRow base e size v n xs := by
  obtain ⟨h1, h2⟩ := h
  refine ⟨h1, h2.imp id fun ⟨g, cap, cur, hv, hb, hh, hr⟩ => ⟨g, cap, cur, hv, hb, keep_ext hx hh, hr⟩⟩

set_option maxHeartbeats 1000000 in
theorem specFlashNew_c (w : World) : Calls Try.prog 62 #[] w (fun e w' => ∃ v B bs, e = .returned v ∧ Ext w w' ∧ OwnFlash w' v newFlash B bs ∧ (B :: bs).Nodup ∧ ∀ b ∈ B :: bs, w.heap.size ≤ b) := by
  have hmk : ∀ w : World, (Instr.makeSlice 104 (.int .i64 4) (.int .i64 4)).run Try.prog w = .ok (.slice (some ⟨w.heap.size, 0, none⟩) 4 4) (w.alloc (.cells (madeCells #[.int .i64 0, .int .i64 0, .int .i64 0, .int .i64 0, .int .i64 0] 20) 99)) :=
    make_n (P := Try.prog) 104 99 #[.int .i64 0, .int .i64 0, .int .i64 0, .int .i64 0, .int .i64 0] 5 40 Try.underlying104 (by kernel_rfl) 4 (by omega) (by omega)
  go_enter Try.func62, Try.ntmps62
  go_wp2
  go_loopw [1, 2] (fun v i wr => ∃ (k : Nat) (rows : List (Value × Int)) (bs : List Nat), k ≤ 4 ∧ i = .int .i64 k ∧ Ext w wr ∧ wr.ownsRow w.heap.size 106 2 v k (rows.flatMap rowC) ∧ rows.length = k ∧ bs.length = k ∧ bs.Nodup ∧
    ∀ (i : Nat) r b, rows[i]? = some r → bs[i]? = some b → r.2 = 0 ∧ OwnT 5 pageC 99 wr r.1 newBlock.pages b ∧ w.heap.size ≤ b) (fun _ i _ => 4 - (intOf i).toNat)
  case atStart =>
    refine ⟨0, [], [], by omega, rfl, ext_alloc (ext_refl _) _, ⟨rfl, .inr ⟨w.heap.size, 0, _, rfl, Nat.le_refl _, alloc_get_new rfl, Nat.le_refl _, by simp, rfl, rfl⟩⟩, rfl, rfl, List.nodup_nil, fun i r b h => by simp at h⟩
  case round =>
    obtain ⟨k, rows, bs, hk, rfl, hX, hown, hrl, hbl, hnd, hP⟩ := hrel
    have HP := Lib.hid hP; clear hP
    by_cases hlt : k < 4
    · have hz : ∀ a b : Obj, wr.heap.size < ((wr.alloc a).alloc b).heap.size := fun a b => by simp; omega
      go_wp2_with (refine wpList_app rfl _ _ 30 rfl w.heap.size 106 2 32 Try.underlying30 (by kernel_rfl) (by omega) _ k (rows.flatMap rowC) rfl (ownsRow_ext hown (ext_alloc (ext_alloc (ext_refl _) _) _)) ⟨wr.heap.size + 1, 0, none⟩ 1 1 (rowC (.slice (some ⟨wr.heap.size, 0, none⟩) 4 4, 0)) rfl rfl ?hnews (by simp [Value.oneCell']) (by simp [maxLen]; omega) (by omega) ?hbase fun v' w' hown' hg => ?_)
      case hnews =>
        intro j u hu
        rw [Addr.add_mid, cell_block (alloc_get_new (by simp)), Nat.zero_add]
        simpa using hu
      case hbase => have := hX.size; simp; omega
      have hE2 : ∀ a b : Obj, Ext wr ((wr.alloc a).alloc b) := fun a b => ext_alloc (ext_alloc (ext_refl _) _) _
      have hPage := OwnT.zeros (w := (wr.alloc (.cells (madeCells #[.int .i64 0, .int .i64 0, .int .i64 0, .int .i64 0, .int .i64 0] 20) 99)).alloc (.cells (rowC (.slice (some ⟨wr.heap.size, 0, none⟩) 4 4, 0)).toArray 106)) (keep_ext (ext_alloc (ext_refl _) _) (alloc_get_new rfl))
      have hown0 := ownsRow_ext hown (hE2 (.cells (madeCells #[.int .i64 0, .int .i64 0, .int .i64 0, .int .i64 0, .int .i64 0] 20) 99) (.cells (rowC (.slice (some ⟨wr.heap.size, 0, none⟩) 4 4, 0)).toArray 106))
      refine ⟨⟨k + 1, rows ++ [(.slice (some ⟨wr.heap.size, 0, none⟩) 4 4, 0)], bs ++ [wr.heap.size], by omega, by go_num, ext_grown (ext_trans hX (hE2 _ _)) hown0 hg, by rw [List.flatMap_append]; exact hown', by simp [hrl], by simp [hbl], ?_, fun i r b hr hb => ?_⟩, by simp [intOf]; omega⟩
      · rw [List.nodup_append]
        refine ⟨hnd, by simp, fun a ha b hb => ?_⟩
        rw [List.mem_singleton] at hb
        subst hb
        obtain ⟨i, hi, rfl⟩ := List.mem_iff_getElem.1 ha
        exact Nat.ne_of_lt (HP.out i rows[i] bs[i] (List.getElem?_eq_getElem (by omega)) (List.getElem?_eq_getElem hi)).2.1.lt
      · by_cases hik : i < k
        · rw [List.getElem?_append_left (by omega)] at hr hb
          obtain ⟨h1, h2, h3⟩ := HP.out i r b hr hb
          exact ⟨h1, (h2.ext (hE2 _ _)).grown hown0 (by decide) hg, h3⟩
        · have hi : i = k := by
            have := (List.getElem?_eq_some_iff.1 hb).1
            simp at this; omega
          subst hi
          rw [List.getElem?_append_right (by omega)] at hr hb
          simp [hrl, hbl] at hr hb
          subst hr hb
          exact ⟨rfl, hPage.grown hown0 (by decide) hg, hX.size⟩
    · obtain rfl : k = 4 := by omega
      go_wp2
      obtain ⟨B, hB, hO⟩ := OwnT.of_owns (n := 2) (enc := rowC) (fun _ => rfl) (by rw [hrl]; exact hown) (by intro h; rw [h] at hrl; cases hrl)
      refine bodyPost_ret (v := u1) (by simp [results, Try.results62, go_sem]) rfl ⟨u1, B, bs, rfl, hX, ⟨rows, hO.any, hrl, hbl, fun i x r b hx hr hb => ?_⟩, List.nodup_cons.2 ⟨fun hm => ?_, hnd⟩, fun b hb => ?_⟩
      · obtain ⟨h1, h2, h3⟩ := HP.out i r b hr hb
        have hxb : x = newBlock := by
          have hi : i < 4 := (List.getElem?_eq_some_iff.1 hx).1
          match i, hi with
          | 0, _ => simpa [newFlash] using hx.symm
          | 1, _ => simpa [newFlash] using hx.symm
          | 2, _ => simpa [newFlash] using hx.symm
          | 3, _ => simpa [newFlash] using hx.symm
        subst hxb
        exact ⟨h1, h2.any⟩
      · obtain ⟨i, hi, he⟩ := List.mem_iff_getElem.1 hm
        obtain ⟨h1, h2, h3⟩ := HP.out i rows[i] bs[i] (List.getElem?_eq_getElem (by omega)) (List.getElem?_eq_getElem hi)
        obtain ⟨c, hc⟩ := h2.block
        obtain ⟨c', hc'⟩ := hO.block
        rw [he, hc'] at hc
        simp at hc
      · rcases List.mem_cons.1 hb with rfl | hb
        · exact hB
        · obtain ⟨i, hi, rfl⟩ := List.mem_iff_getElem.1 hb
          exact (HP.out i rows[i] bs[i] (List.getElem?_eq_getElem (by omega)) (List.getElem?_eq_getElem hi)).2.2
end Go.Bu

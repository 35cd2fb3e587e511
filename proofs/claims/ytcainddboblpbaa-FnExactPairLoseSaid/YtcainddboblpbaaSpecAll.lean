/- All values of a store, and of a pair: the reference's StoreAll, PairAll. -/
import Derived.Test.YtcainddboblpbaaSteps
import Derived.Test.YtcainddboblpbaaAllI
set_option linter.unusedVariables false
set_option linter.unusedSimpArgs false
namespace Go.Bu
open Go Go.RowKit Go.Plan Go.Proofs

/-- numbers in a row that was made since base -/
abbrev IRow (base : Nat) (w : World) (v : Value) (xs : List Int) : Prop := w.ownsRow base 3 1 v xs.length (xs.flatMap intC)
theorem IRow.empty {base : Nat} {w : World} {B : Nat} (h : w.heap[B]? = some (.cells #[] 3 (0, 0))) (hb : base ≤ B) : IRow base w (.slice (some ⟨B, 0, none⟩) 0 0) [] := ⟨rfl, .inr ⟨B, 0, #[], rfl, hb, h, Nat.le_refl _, by simp, rfl, rfl⟩⟩
theorem IRow.ext {base : Nat} {w w' : World} {v : Value} {xs : List Int} (h : IRow base w v xs) (hx : Ext w w') : IRow base w' v xs := ownsRow_ext h hx
theorem IRow.own {base : Nat} {w : World} {v : Value} {xs : List Int} (h : IRow base w v xs) (h0 : xs ≠ []) : ∃ B, base ≤ B ∧ OwnInts w v xs B := by
  obtain ⟨B, hB, ho⟩ := OwnT.of_owns (n := 1) (enc := intC) (fun _ => rfl) h h0
  exact ⟨B, hB, _, ho⟩
theorem IRow.form {base : Nat} {w : World} {v : Value} {xs : List Int} (h : IRow base w v xs) : ∃ a cap, v = .slice a xs.length cap := by
  obtain ⟨_, h2⟩ := h
  rcases h2 with ⟨rfl, h0⟩ | ⟨g, cap, cur, rfl, _⟩
  · exact ⟨none, 0, by rw [h0]⟩
  · exact ⟨_, cap, rfl⟩
theorem own_none {w : World} {B : Nat} (h : w.heap[B]? = some (.cells #[] 3 (0, 0))) : OwnInts w (.slice (some ⟨B, 0, none⟩) 0 0) [] B := ⟨_, 0, 0, rfl, _, h, fun i x hx => by simp at hx⟩

/-- append of one number -/
theorem wpList_appInt {w : World} {ops : Array Oper} {rest : List Oper} {o : Oper} {a : Act} {Q : Exit → Act → World → Prop} (hgd : o.guard = none) (s x : Operand)
    (ho : o.op = .call { callee := .builtin .append, args := #[s, x], argTypes := #[23, 23] }) {base : Nat} {v : Value} {xs : List Int} (hs : a.eval s = v) (hown : IRow base w v xs)
    {B : Nat} {y : Int} (hx : a.eval x = .slice (some ⟨B, 0, none⟩) 1 1) (hB : w.heap[B]? = some (.cells #[.int .i64 y] 3 (0, 0))) (hlen : xs.length ≤ 1000000) (hbase : base ≤ w.heap.size)
    (h : ∀ v' w', IRow base w' v' (xs ++ [y]) → w.grownBy w' v.ownBlock → wpList Try.prog ops Q rest (a.put o.dst v') w') : wpList Try.prog ops Q (o :: rest) a w := by
  refine wpList_app hgd s x 23 ho base 3 1 8 Try.underlying23 (by kernel_rfl) (by omega) v xs.length (xs.flatMap intC) hs hown ⟨B, 0, none⟩ 1 1 (intC y) hx rfl (fun j u hu => ?_) (by simp [Value.oneCell']) (by simp [maxLen]; omega) (by omega) hbase (fun v' w' h1 h2 => h v' w' ?_ h2)
  · rw [Addr.add_mid, cell_block hB, Nat.zero_add]; simpa using hu
  · show w'.ownsRow _ _ _ _ _ _
    rw [List.length_append, List.flatMap_append]; simpa using h1

theorem allS_take (s : Store) (k : Nat) (h : k < 6) : (allS s).take k ++ [readN s k] = (allS s).take (k + 1) := by
  have := take_snoc (allS s) k (by rw [allS_len]; exact h)
  rw [← this]; congr 2; unfold allS; simp

def IntsP (w : World) (xs : List Int) (e : Ending) (w' : World) : Prop := ∃ v B, e = .returned v ∧ Ext w w' ∧ w.heap.size ≤ B ∧ OwnInts w' v xs B

set_option maxRecDepth 20000 in
set_option maxHeartbeats 2000000 in
theorem specStoreAll_c (fv dv : Value) (s : Store) (w : World) (h : StoreV w fv dv s) (hn : s.flash.length ≤ 1048576) :
    Calls Try.prog 32 #[.agg #[fv, dv]] w (IntsP w (allV s)) := by
  have hSO := fun (w' : World) (hx : Ext w w') => specStoreOk_c fv dv s w' (h.ext hx) hn
  unfold allV
  by_cases hok : storeOkB s = true
  · have hF := flashOk_iff.1 (storeOk_flash hok)
    have h6 := storeOk_disk hok
    have hLR := fun (n : Nat) (hn6 : n < 6) (w' : World) (hx : Ext w w') => l11Read_c fv dv s n w' (h.ext hx) hn (pages_short (storeOk_flash hok)) (by omega) (by omega)
    obtain ⟨fa, fcap, hfv⟩ := h.1.form
    obtain ⟨da, dcap, hdv⟩ := h.2.form
    rw [h6] at hdv
    subst hfv
    subst hdv
    rw [hok] at hSO
    rw [if_pos hok]
    have hlr := Lib.hid hLR
    clear hok hF h6 hn hLR h
    go_enter Try.func32, Try.ntmps32
    go_wp2_with fail
    refine (hSO _ (ext_alloc (ext_alloc (ext_refl _) _) _)).mono ?_; rintro e1 w1 ⟨rfl, hx1⟩
    have X1 := ext_trans (ext_alloc (ext_alloc (ext_refl w) _) _) hx1
    have G1 := keep_ext hx1 (hg_alloc (hg_new (b := w.heap.size) rfl))
    have G2 := keep_ext hx1 (hg_new (b := w.heap.size + 1) (by simp))
    have hR0 : IRow w.heap.size w1 (.slice (some ⟨w.heap.size + 1, 0, none⟩) 0 0) [] := IRow.empty G2 (by omega)
    clear hSO hx1
    go_wp2_with fail
    go_loopw [3, 4] (fun v y wr => ∃ (k : Nat), k ≤ 6 ∧ y = .int .i64 ((k : Int) + 1) ∧ Ext w wr ∧ IRow w.heap.size wr v ((allS s).take k) ∧ wr.heap[w.heap.size]? = some (.cells #[.slice fa s.flash.length fcap, .slice da 6 dcap] 32 (0, 0))) (fun _ y _ => 7 - (intOf y).toNat)
    case atStart => exact ⟨0, by omega, rfl, X1, by simpa using hR0, G1⟩
    case round =>
      clear hR0 G1 G2 X1
      obtain ⟨k, hk, rfl, hX, hI, G1⟩ := hrel
      obtain ⟨g1, gf1⟩ := cellsK G1
      have l1 := heap_lt G1
      by_cases hlt : k < 6
      · have HI := Lib.hid hI
        clear hI
        go_wp2_with fail
        refine (hlr.out k hlt _ hX).mono ?_; rintro e2 w2 ⟨rfl, hx2⟩
        have X2 := ext_trans hX hx2
        replace G1 := keep_ext hx2 G1
        have hI2 := HI.out.ext hx2
        have HI2 := Lib.hid hI2
        have hs2 := X2.size
        have hst := allS_take s k hlt
        generalize readN s k = y at *
        clear hI2 HI g1 gf1
        go_wp2_with (refine wpList_appInt rfl _ _ rfl rfl (HI2.out.ext (ext_alloc (ext_refl _) _)) (y := y) rfl (hg_new rfl) (by rw [List.length_take]; omega) (by simp; omega) (fun v' w' hS' hg => ?_))
        go_roundw
        case rel => exact ⟨k + 1, by omega, by go_num, ext_grown (ext_alloc X2 _) (HI2.out.ext (ext_alloc (ext_refl _) _)) hg, by rw [← hst]; exact hS', keep_grown (hg_alloc G1) (by decide) (HI2.out.ext (ext_alloc (ext_refl _) _)) hg⟩
        case measure => simp [intOf]; omega
      · obtain rfl : k = 6 := by omega
        rw [show (allS s).take 6 = allS s from List.take_of_length_le (by rw [allS_len]; omega)] at hI
        obtain ⟨a1, c1, rfl⟩ := hI.form
        obtain ⟨B, hB, hO⟩ := hI.own (fun e => by have := allS_len s; rw [e] at this; simp at this)
        go_wp2_with fail
        go_ret
        exact ⟨_, B, rfl, hX, hB, hO⟩
  · rw [Bool.not_eq_true] at hok
    rw [hok] at hSO
    rw [if_neg (by rw [hok]; simp)]
    obtain ⟨fa, fcap, rfl⟩ := h.1.form
    obtain ⟨da, dcap, rfl⟩ := h.2.form
    go_enter Try.func32, Try.ntmps32
    go_wp2_with fail
    refine (hSO _ (ext_alloc (ext_alloc (ext_refl _) _) _)).mono ?_; rintro e1 w1 ⟨rfl, hx1⟩
    have G2 := keep_ext hx1 (hg_new (b := w.heap.size + 1) (by simp))
    go_wp2_with fail
    go_ret
    exact ⟨_, w.heap.size + 1, rfl, ext_trans (ext_alloc (ext_alloc (ext_refl w) _) _) hx1, by omega, own_none G2⟩

set_option maxRecDepth 20000 in
set_option maxHeartbeats 1000000 in
theorem specPairAll_c (f d g e : Value) (p : Pair) (w : World) (hA : StoreV w f d p.A) (hB : StoreV w g e p.B) (hsA : Small p.A) (hsB : Small p.B) :
    Calls Try.prog 9 #[.agg #[f, d, g, e, .int .i64 p.lost]] w (IntsP w (pairAllV p)) := by
  have hPO := fun (w' : World) (hx : Ext w w') => specPairOk_c f d g e p w' (hA.ext hx) (hB.ext hx) hsA.1 hsB.1
  have hSA := fun (w' : World) (hx : Ext w w') => specStoreAll_c f d p.A w' (hA.ext hx) hsA.1
  have hSB := fun (w' : World) (hx : Ext w w') => specStoreAll_c g e p.B w' (hB.ext hx) hsB.1
  unfold pairAllV
  obtain ⟨a1, c1, rfl⟩ := hA.1.form
  obtain ⟨a2, c2, rfl⟩ := hA.2.form
  obtain ⟨a3, c3, rfl⟩ := hB.1.form
  obtain ⟨a4, c4, rfl⟩ := hB.2.form
  by_cases hok : pairOkB p = true
  · obtain ⟨_, hokA, hokB⟩ := pairOk_iff.1 hok
    rw [hok] at hPO
    rw [if_pos hok]
    rw [allV_ok hokA] at hSA
    rw [allV_ok hokB] at hSB
    clear hok hokA hokB
    by_cases hl : p.lost = 1
    · rw [if_pos hl, hl]
      rw [hl] at hPO
      clear hl
      go_enter Try.func9, Try.ntmps9
      go_wp2_with fail
      refine (hPO _ (ext_alloc (ext_refl _) _)).mono ?_; rintro e1 w1 ⟨rfl, hx1⟩
      have X1 := ext_trans (ext_alloc (ext_refl w) _) hx1
      have hs1 := X1.size
      have G1 := keep_ext hx1 (hg_new (b := w.heap.size) rfl)
      obtain ⟨g1, gf1⟩ := cellsK G1
      have l1 := heap_lt G1
      clear hPO hx1
      go_wp2_with fail
      refine (hSB _ X1).mono ?_; rintro e2 w2 ⟨v2, B, rfl, hx2, hBB, hI⟩
      obtain ⟨a5, n5, rfl⟩ := hI.old.form
      go_wp2_with fail
      go_ret
      exact ⟨_, B, rfl, ext_trans X1 hx2, by omega, hI⟩
    · rw [if_neg hl]
      go_enter Try.func9, Try.ntmps9
      go_wp2_with fail
      refine (hPO _ (ext_alloc (ext_refl _) _)).mono ?_; rintro e1 w1 ⟨rfl, hx1⟩
      have X1 := ext_trans (ext_alloc (ext_refl w) _) hx1
      have hs1 := X1.size
      have G1 := keep_ext hx1 (hg_new (b := w.heap.size) rfl)
      obtain ⟨g1, gf1⟩ := cellsK G1
      have l1 := heap_lt G1
      clear hPO hx1
      go_wp2_with fail
      refine (hSA _ X1).mono ?_; rintro e2 w2 ⟨v2, B, rfl, hx2, hBB, hI⟩
      obtain ⟨a5, n5, rfl⟩ := hI.old.form
      go_wp2_with fail
      go_ret
      exact ⟨_, B, rfl, ext_trans X1 hx2, by omega, hI⟩
  · rw [Bool.not_eq_true] at hok
    rw [hok] at hPO
    rw [if_neg (by rw [hok]; simp)]
    clear hok
    go_enter Try.func9, Try.ntmps9
    go_wp2_with fail
    refine (hPO _ (ext_alloc (ext_refl _) _)).mono ?_; rintro e1 w1 ⟨rfl, hx1⟩
    go_wp2_with fail
    go_ret
    have G2 := hg_new (w := w1) (x := .cells #[] 3) (b := w1.heap.size) rfl
    exact ⟨_, w1.heap.size, rfl, ext_alloc (ext_trans (ext_alloc (ext_refl w) _) hx1) _, by have := (ext_trans (ext_alloc (ext_refl w) _) hx1).size; omega, own_none G2⟩
end Go.Bu

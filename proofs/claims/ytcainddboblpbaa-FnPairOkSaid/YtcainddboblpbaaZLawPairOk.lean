/- The law FnPairOk holds of every input. -/
import Derived.Test.YtcainddboblpbaaZ7
import Derived.Test.YtcainddboblpbaaZ4
set_option linter.unusedVariables false
set_option linter.unusedSimpArgs false
namespace Go.Bu
open Go Go.RowKit Go.Plan Go.Proofs

set_option maxRecDepth 20000 in
set_option maxHeartbeats 1000000 in
theorem lawPairOk (v : Value) (xs : List Nat) (u : Value) (ys : List Nat) (w : World) (h : Bytes (Old w) w v xs) (hs : ∀ x ∈ xs, x < 256) (hcap : ∀ a n c, v = .slice a n c → n ≤ c) (h2 : Bytes (Old w) w u ys) (_ : ∀ x ∈ ys, x < 256) (_ : ∀ a n c, u = .slice a n c → n ≤ c) :
    Calls Try.prog 6 #[v, u] w (Ret w (.bool true)) := by
  obtain ⟨a, cap, rfl⟩ := h.form
  obtain ⟨a2, cap2, rfl⟩ := h2.form
  by_cases hl : xs.length ≤ 1048576
  · by_cases hl2 : ys.length ≤ 1048576
    · go_enter Try.func6, Try.ntmps6
      go_wp2_with fail
      refine (drawPairOk_c _ xs _ h hs hl hcap).mono ?_; rintro e1 w1 ⟨p, v1, rfl, hx1, hp⟩
      obtain ⟨a1, n1, c1, b1, m1, k1, a3, n3, c3, b3, m3, k3, rfl⟩ := hp.forms
      have HP := Lib.hid hp
      clear hp
      go_wp2_with fail
      refine (implPairOk_r (HP.out.ext (ext_alloc (ext_refl _) _))).mono ?_; rintro e2 w2 ⟨rfl, hx2⟩
      have X2 := ext_trans (ext_alloc (ext_refl w1) _) hx2
      have G := keep_ext hx2 (hg_new (b := w1.heap.size) rfl)
      obtain ⟨g, gf⟩ := cellsK G
      have lG := heap_lt G
      replace HP := Lib.hid (HP.out.ext X2)
      have X0 : Ext w w2 := ext_trans hx1 X2
      have hPO := specPairOk_r HP.out
      clear hx1 hx2 X2
      by_cases hok : pairOkB p = true
      · rw [hok] at hPO ⊢
        have HOK := Lib.hid hok
        clear hok
        go_wp2_with fail
        refine hPO.mono ?_; rintro e3 w3 ⟨rfl, hx3⟩
        clear hPO
        have X := ext_trans X0 hx3
        replace HP := Lib.hid (HP.out.ext hx3)
        replace G := keep_ext hx3 G
        clear X0
        have X0 := X
        clear X g gf lG
        obtain ⟨g, gf⟩ := cellsK G
        have lG := heap_lt G
        have hm0 : (0 : Int) ≤ (ys.length : Int) % 3 := by omega
        have hm1 : (ys.length : Int) % 3 < 3 := by omega
        have hs := HP.out.read.2.2.2
        have hW : ∀ o1 o2 : Obj, PairR ((w3.alloc o1).alloc o2) (.agg #[.slice a1 n1 c1, .slice b1 m1 k1, .slice a3 n3 c3, .slice b3 m3 k3, .int .i64 p.lost]) p := fun o1 o2 => HP.out.ext (ext_alloc (ext_alloc (ext_refl _) _) _)
        have HW := Lib.hid hW
        have HS := Lib.hid hs
        clear hW hs
        go_wp2_with fail
        refine (implPairNew_c _).mono ?_
        rintro e4 w4 ⟨f, d, g', e, L, M, rfl, hx4, hO1, hO2, hn, hb⟩
        have X34 := ext_trans (ext_alloc (ext_alloc (ext_refl w3) _) _) hx4
        have G7 := keep_ext hx4 (hg_alloc (hg_new (w := w3) (b := w3.heap.size) rfl))
        have G8 := keep_ext hx4 (hg_new (b := w3.heap.size + 1) (by simp))
        replace G := keep_ext X34 G
        replace HP := Lib.hid (HP.out.ext X34)
        obtain ⟨b5, m5, k5, b6, m6, k6, rfl, rfl⟩ := hO1.forms
        obtain ⟨b7, m7, k7, b8, m8, k8, rfl, rfl⟩ := hO2.forms
        have hN : PairR w4 (.agg #[.slice b5 m5 k5, .slice b6 m6 k6, .slice b7 m7 k7, .slice b8 m8 k8, .int .i64 0]) ⟨newStore, newStore, 0⟩ := ⟨_, _, _, _, rfl, ⟨hO1.flash, hO1.disk⟩, ⟨hO2.flash, hO2.disk⟩, small_ok storeOk_new, small_ok storeOk_new⟩
        have HN := Lib.hid hN
        have X4 := ext_trans X0 X34
        obtain ⟨_, hA, hB, sA, sB⟩ := HP.out.read
        obtain ⟨⟨p0, p2⟩, okA, okB⟩ := pOk_iff.1 HOK.out
        have HC1 := Lib.hid fun (w' : World) (hx : Ext w4 w') => okA ▸ implStoreOk_r (hA.ext hx) sA
        have HC2 := Lib.hid fun (w' : World) (hx : Ext w4 w') => okB ▸ implStoreOk_r (hB.ext hx) sB
        have hx3 : pairOkB ⟨p.A, p.B, (ys.length : Int) % 3⟩ = true := pOk_iff.2 ⟨⟨hm0, by dsimp only; omega⟩, okA, okB⟩
        have hy3 : pairOkB ⟨p.A, p.B, 3⟩ = false := by
          rw [← Bool.not_eq_true]; intro h
          have := (pOk_iff.1 h).1.2
          dsimp only at this; omega
        have hrx : ∀ w' l, Ext w4 w' → PairR w' (.agg #[.slice a1 n1 c1, .slice b1 m1 k1, .slice a3 n3 c3, .slice b3 m3 k3, .int .i64 l]) ⟨p.A, p.B, l⟩ := fun w' l hx => ⟨_, _, _, _, rfl, hA.ext hx, hB.ext hx, sA, sB⟩
        have HC3 := Lib.hid fun (w' : World) (hx : Ext w4 w') => hx3 ▸ implPairOk_r (hrx w' _ hx)
        have HC4 := Lib.hid fun (w' : World) (hx : Ext w4 w') => hy3 ▸ implPairOk_r (hrx w' _ hx)
        have HC5 := Lib.hid fun (w' : World) (hx : Ext w4 w') => pOk_new ▸ implPairOk_r (hN.ext hx)
        have HC6 := Lib.hid fun (w' : World) (hx : Ext w4 w') => lqStore_t (hN.ext hx).read.2.1 (hN.ext hx).read.2.2.1 (small_ok storeOk_new)
        clear hO1 hO2 hn hb hN hx4 X34 hA hB sA sB okA okB hx3 hy3 hrx X0 p0 p2 g gf lG HW HS HN HP HOK
        have X0 := X4
        clear X4
        have G9 := hg_new (w := w4) (x := .cells #[.slice b5 m5 k5, .slice b6 m6 k6, .slice b7 m7 k7, .slice b8 m8 k8, .int .i64 0] 34) (b := w4.heap.size) rfl
        have Y0 : Ext w4 (w4.alloc (.cells #[.slice b5 m5 k5, .slice b6 m6 k6, .slice b7 m7 k7, .slice b8 m8 k8, .int .i64 0] 34)) := ext_alloc (ext_refl _) _
        obtain ⟨g, gf⟩ := cellsK G
        have lG := heap_lt G
        have l7 := heap_lt G7
        have l8 := heap_lt G8
        obtain ⟨g7, gf7⟩ := cellsK G7
        obtain ⟨g8, gf8⟩ := cellsK G8
        go_wp2_with fail
        refine (HC1.out _ Y0).mono ?_; rintro e5 w5 ⟨rfl, hx⟩
        replace G9 := keep_ext hx G9
        have Y1 := ext_trans Y0 hx
        clear Y0
        have Y0 := Y1
        clear Y1 g gf g7 gf7 g8 gf8 hx
        (try clear g9 gf9 l9)
        obtain ⟨g, gf⟩ := cellsK (keep_ext Y0 G)
        obtain ⟨g7, gf7⟩ := cellsK (keep_ext Y0 G7)
        obtain ⟨g8, gf8⟩ := cellsK (keep_ext Y0 G8)
        obtain ⟨g9, gf9⟩ := cellsK G9
        have l9 := heap_lt G9
        go_wp2_with fail
        refine (HC2.out _ Y0).mono ?_; rintro e5 w6 ⟨rfl, hx⟩
        replace G9 := keep_ext hx G9
        have Y1 := ext_trans Y0 hx
        clear Y0
        have Y0 := Y1
        clear Y1 g gf g7 gf7 g8 gf8 hx
        (try clear g9 gf9 l9)
        obtain ⟨g, gf⟩ := cellsK (keep_ext Y0 G)
        obtain ⟨g7, gf7⟩ := cellsK (keep_ext Y0 G7)
        obtain ⟨g8, gf8⟩ := cellsK (keep_ext Y0 G8)
        obtain ⟨g9, gf9⟩ := cellsK G9
        have l9 := heap_lt G9
        go_wp2_with fail
        refine (HC3.out _ Y0).mono ?_; rintro e5 w7 ⟨rfl, hx⟩
        replace G9 := keep_ext hx G9
        have Y1 := ext_trans Y0 hx
        clear Y0
        have Y0 := Y1
        clear Y1 g gf g7 gf7 g8 gf8 hx
        (try clear g9 gf9 l9)
        obtain ⟨g, gf⟩ := cellsK (keep_ext Y0 G)
        obtain ⟨g7, gf7⟩ := cellsK (keep_ext Y0 G7)
        obtain ⟨g8, gf8⟩ := cellsK (keep_ext Y0 G8)
        obtain ⟨g9, gf9⟩ := cellsK G9
        have l9 := heap_lt G9
        go_wp2_with fail
        refine (HC4.out _ Y0).mono ?_; rintro e5 w8 ⟨rfl, hx⟩
        replace G9 := keep_ext hx G9
        have Y1 := ext_trans Y0 hx
        clear Y0
        have Y0 := Y1
        clear Y1 g gf g7 gf7 g8 gf8 hx
        (try clear g9 gf9 l9)
        obtain ⟨g, gf⟩ := cellsK (keep_ext Y0 G)
        obtain ⟨g7, gf7⟩ := cellsK (keep_ext Y0 G7)
        obtain ⟨g8, gf8⟩ := cellsK (keep_ext Y0 G8)
        obtain ⟨g9, gf9⟩ := cellsK G9
        have l9 := heap_lt G9
        go_wp2_with fail
        refine (HC5.out _ Y0).mono ?_; rintro e5 w9 ⟨rfl, hx⟩
        replace G9 := keep_ext hx G9
        have Y1 := ext_trans Y0 hx
        clear Y0
        have Y0 := Y1
        clear Y1 g gf g7 gf7 g8 gf8 hx
        (try clear g9 gf9 l9)
        obtain ⟨g, gf⟩ := cellsK (keep_ext Y0 G)
        obtain ⟨g7, gf7⟩ := cellsK (keep_ext Y0 G7)
        obtain ⟨g8, gf8⟩ := cellsK (keep_ext Y0 G8)
        obtain ⟨g9, gf9⟩ := cellsK G9
        have l9 := heap_lt G9
        go_wp2_with fail
        refine (HC6.out _ Y0).mono ?_; rintro e5 w10 ⟨rfl, hx⟩
        replace G9 := keep_ext hx G9
        have Y1 := ext_trans Y0 hx
        clear Y0
        have Y0 := Y1
        clear Y1 g gf g7 gf7 g8 gf8 hx
        (try clear g9 gf9 l9)
        obtain ⟨g, gf⟩ := cellsK (keep_ext Y0 G)
        obtain ⟨g7, gf7⟩ := cellsK (keep_ext Y0 G7)
        obtain ⟨g8, gf8⟩ := cellsK (keep_ext Y0 G8)
        obtain ⟨g9, gf9⟩ := cellsK G9
        have l9 := heap_lt G9
        go_wp2_with fail
        go_ret
        exact ⟨rfl, ext_trans X0 Y0⟩
      · rw [Bool.not_eq_true] at hok
        rw [hok] at hPO ⊢
        go_wp2_with fail
        refine hPO.mono ?_; rintro e3 w3 ⟨rfl, hx3⟩
        clear hPO
        have X := ext_trans X0 hx3
        replace HP := Lib.hid (HP.out.ext hx3)
        replace G := keep_ext hx3 G
        clear X0
        have X0 := X
        clear X g gf lG
        obtain ⟨g, gf⟩ := cellsK G
        have lG := heap_lt G
        have hPO := specPairOk_r HP.out
        rw [hok] at hPO
        clear hok
        go_wp2_with fail
        refine hPO.mono ?_; rintro e4 w4 ⟨rfl, hx4⟩
        go_wp2_with fail
        go_ret
        exact ⟨rfl, ext_trans X0 hx4⟩
    · go_enter Try.func6, Try.ntmps6
      go_wp2_with fail
      go_ret
      exact ⟨rfl, ext_refl _⟩
  · go_enter Try.func6, Try.ntmps6
    go_wp2_with fail
    all_goals
      go_ret
      exact ⟨rfl, ext_refl _⟩
end Go.Bu

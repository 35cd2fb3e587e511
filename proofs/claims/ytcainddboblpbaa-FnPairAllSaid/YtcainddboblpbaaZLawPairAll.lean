/- The law FnPairAll holds of every input. -/
import Derived.Test.YtcainddboblpbaaZ7
set_option linter.unusedVariables false
set_option linter.unusedSimpArgs false
namespace Go.Bu
open Go Go.RowKit Go.Plan Go.Proofs

set_option maxRecDepth 20000 in
set_option maxHeartbeats 800000 in
theorem lawPairAll (v : Value) (xs : List Nat) (w : World) (h : Bytes (Old w) w v xs) (hs : ∀ x ∈ xs, x < 256) (hcap : ∀ a n c, v = .slice a n c → n ≤ c) :
    Calls Try.prog 5 #[v] w (Ret w (.bool true)) := by
  obtain ⟨a, cap, rfl⟩ := h.form
  by_cases hl : xs.length ≤ 1048576
  · go_enter Try.func5, Try.ntmps5
    go_wp2_with fail
    refine (drawPairAll_c _ xs _ h hs hl hcap).mono ?_; rintro e1 w1 ⟨p, v1, rfl, hx1, hp⟩
    obtain ⟨a1, n1, c1, b1, m1, k1, a2, n2, c2, b2, m2, k2, rfl⟩ := hp.forms
    have HP := Lib.hid hp
    have HL := Lib.hid (pairV_len p)
    clear hp
    go_wp2_with fail
    refine (implPairAll_r (HP.out.ext (ext_alloc (ext_refl _) _))).mono ?_; rintro e2 w2 ⟨v2, rfl, hx2, hI⟩
    have X2 := ext_trans (ext_alloc (ext_refl w1) _) hx2
    have G := keep_ext hx2 (hg_new (b := w1.heap.size) rfl)
    obtain ⟨g, gf⟩ := cellsK G
    have lG := heap_lt G
    replace HP := Lib.hid (HP.out.ext X2)
    have X0 : Ext w w2 := ext_trans hx1 X2
    obtain ⟨aI, cI, rfl⟩ := hI.form
    have HI := Lib.hid hI
    clear hx1 hx2 X2 hI
    go_wp2_with fail
    refine (specPairAll_r HP.out).mono ?_; rintro e3 w3 ⟨v3, rfl, hx3, hJ⟩
    replace HI := Lib.hid (HI.out.ext hx3)
    have hEq := lqInts_t HI.out hJ HL.out
    have X := ext_trans X0 hx3
    replace G := keep_ext hx3 G
    replace HP := Lib.hid (HP.out.ext hx3)
    clear hx3 X0
    have X0 := X
    clear X
    clear g gf
    obtain ⟨g, gf⟩ := cellsK G
    have lG := heap_lt G
    go_wp2_with fail
    refine hEq.mono ?_; rintro e4 w4 ⟨rfl, hx4⟩
    replace HI := Lib.hid (HI.out.ext hx4)
    clear hEq hJ
    have X := ext_trans X0 hx4
    replace G := keep_ext hx4 G
    replace HP := Lib.hid (HP.out.ext hx4)
    clear hx4 X0
    have X0 := X
    clear X
    clear g gf
    obtain ⟨g, gf⟩ := cellsK G
    have lG := heap_lt G
    have hPO := specPairOk_r HP.out
    by_cases hok : pairOkB p = true
    · rw [hok] at hPO
      have hr := HP.out.read
      obtain ⟨-, hA, hB, sA, sB⟩ := hr
      obtain ⟨⟨l0, l2⟩, hokA, hokB⟩ := pairOk_iff.1 hok
      have HV : Hid (pairAllV p = if p.lost = 1 then allV p.B else allV p.A) := Lib.hid (by unfold pairAllV; rw [if_pos hok, allV_ok hokA, allV_ok hokB])
      have HLN : Hid ((pairAllV p).length = 6) := Lib.hid (by unfold pairAllV; rw [if_pos hok]; split <;> exact allS_len _)
      have HS := Lib.hid (And.intro sA sB)
      clear hA hB sA sB hokA hokB
      go_wp2_with fail
      refine hPO.mono ?_; rintro e5 w5 ⟨rfl, hx5⟩
      replace HI := Lib.hid (HI.out.ext hx5)
      clear hPO
      have X := ext_trans X0 hx5
      replace G := keep_ext hx5 G
      replace HP := Lib.hid (HP.out.ext hx5)
      clear hx5 X0
      have X0 := X
      clear X
      clear g gf
      obtain ⟨g, gf⟩ := cellsK G
      have lG := heap_lt G
      by_cases h1 : p.lost = 1
      · have hSA := implStoreAll_r HP.out.read.2.2.1 HS.out.2
        go_wp2_with fail
        refine hSA.mono ?_; rintro e6 w6 ⟨v6, rfl, hx6, hK⟩
        replace HI := Lib.hid (HI.out.ext hx6)
        have hv := HV.out
        rw [if_pos h1] at hv
        rw [← hv] at hK
        have hEq := lqInts_t HI.out hK HL.out
        clear hSA hv
        have X := ext_trans X0 hx6
        replace G := keep_ext hx6 G
        replace HP := Lib.hid (HP.out.ext hx6)
        clear hx6 X0
        have X0 := X
        clear X
        clear g gf
        obtain ⟨g, gf⟩ := cellsK G
        have lG := heap_lt G
        go_wp2_with fail
        refine hEq.mono ?_; rintro e7 w7 ⟨rfl, hx7⟩
        go_wp2_with fail
        go_ret
        exact ⟨rfl, ext_trans X0 hx7⟩
      · have hSA := implStoreAll_r HP.out.read.2.1 HS.out.1
        go_wp2_with fail
        refine hSA.mono ?_; rintro e6 w6 ⟨v6, rfl, hx6, hK⟩
        replace HI := Lib.hid (HI.out.ext hx6)
        have hv := HV.out
        rw [if_neg h1] at hv
        rw [← hv] at hK
        have hEq := lqInts_t HI.out hK HL.out
        clear hSA hv
        have X := ext_trans X0 hx6
        replace G := keep_ext hx6 G
        replace HP := Lib.hid (HP.out.ext hx6)
        clear hx6 X0
        have X0 := X
        clear X
        clear g gf
        obtain ⟨g, gf⟩ := cellsK G
        have lG := heap_lt G
        go_wp2_with fail
        refine hEq.mono ?_; rintro e7 w7 ⟨rfl, hx7⟩
        have hln := HLN.out
        go_wp2_with fail
        go_ret
        exact ⟨by simp [hln], ext_trans X0 hx7⟩
    · rw [Bool.not_eq_true] at hok
      rw [hok] at hPO
      go_wp2_with fail
      refine hPO.mono ?_; rintro e5 w5 ⟨rfl, hx5⟩
      replace HI := Lib.hid (HI.out.ext hx5)
      clear hPO
      have X := ext_trans X0 hx5
      replace G := keep_ext hx5 G
      replace HP := Lib.hid (HP.out.ext hx5)
      clear hx5 X0
      have X0 := X
      clear X
      clear g gf
      obtain ⟨g, gf⟩ := cellsK G
      have lG := heap_lt G
      go_wp2_with fail
      refine (specPairAll_r HP.out).mono ?_; rintro e6 w6 ⟨v6, rfl, hx6, hJ⟩
      replace HI := Lib.hid (HI.out.ext hx6)
      have hEq := lqInts_t HI.out hJ HL.out
      have X := ext_trans X0 hx6
      replace G := keep_ext hx6 G
      replace HP := Lib.hid (HP.out.ext hx6)
      clear hx6 X0
      have X0 := X
      clear X
      clear g gf
      obtain ⟨g, gf⟩ := cellsK G
      have lG := heap_lt G
      go_wp2_with fail
      refine hEq.mono ?_; rintro e7 w7 ⟨rfl, hx7⟩
      go_wp2_with fail
      go_ret
      exact ⟨rfl, ext_trans X0 hx7⟩
  · go_enter Try.func5, Try.ntmps5
    go_wp2_with fail
    all_goals
      go_ret
      exact ⟨rfl, ext_refl _⟩
end Go.Bu

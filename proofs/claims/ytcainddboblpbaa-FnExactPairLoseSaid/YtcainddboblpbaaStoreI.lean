/- The program's StoreOk and PairOk. -/
import Derived.Test.YtcainddboblpbaaOrderI
import Derived.Test.YtcainddboblpbaaLasts
set_option linter.unusedVariables false
set_option linter.unusedSimpArgs false
namespace Go.Bu
open Go Go.RowKit Go.Plan Go.Proofs

theorem isDirty_c (r : Rec) (w : World) : Calls Try.prog 50 #[recA r] w (Ret w (.bool (r.kind == 1))) := by
  go_enter Try.func50, Try.ntmps50
  go_wp2
  go_ret
  exact ⟨rfl, by go_grown⟩

theorem last_ok {f : List Block} (h : FlashOk f) (a : Int) : last f a = rec0 ∨ (recOkB (last f a) = true ∧ (last f a).addr = a) := by
  have key : ∀ (fs : List Block), (∀ b ∈ fs, ∀ p ∈ b.pages, pageOkB p = true) → ∀ r : Rec, (r = rec0 ∨ (recOkB r = true ∧ r.addr = a)) → (fs.foldl (fun r b => lastP a r b.pages) r = rec0 ∨ (recOkB (fs.foldl (fun r b => lastP a r b.pages) r) = true ∧ (fs.foldl (fun r b => lastP a r b.pages) r).addr = a)) := by
    intro fs hp r hr
    refine foldl_inv (fun r b => lastP a r b.pages) (fun r => r = rec0 ∨ (recOkB r = true ∧ r.addr = a)) fs r hr fun s b hb hs => ?_
    refine foldl_inv (lastStep a) (fun r => r = rec0 ∨ (recOkB r = true ∧ r.addr = a)) b.pages s hs fun s p hpp hs => ?_
    unfold lastStep
    split
    · rename_i hc
      have := hp b hb p hpp
      unfold pageOkB at this
      rw [if_pos hc.1] at this
      exact .inr ⟨this, hc.2.1⟩
    · exact hs
  exact key f (fun b hb => h.pg hb) rec0 (.inl rfl)

set_option maxRecDepth 20000 in
set_option maxHeartbeats 4000000 in
theorem implStoreOk_c (fv dv : Value) (s : Store) (w : World) (h : StoreV w fv dv s) (hp : ∀ b ∈ s.flash, b.pages.length ≤ 1048576) (hd : s.disk.length ≤ 1048576) :
    Calls Try.prog 27 #[.agg #[fv, dv]] w (Ret w (.bool (storeOkB s))) := by
  have hFO := fun (w' : World) (hx : Ext w w') => implFindOrder_c fv s.flash w' (h.1.ext hx) hp
  have hD := h.2
  obtain ⟨fa, fcap, hfv⟩ := h.1.form
  obtain ⟨da, dcap, rfl⟩ := h.2.form
  by_cases h6 : s.disk.length = 6
  · by_cases hok : orderB s.flash = true
    · have hF := flashOk_iff.1 (orderB_ok hok)
      have hLR := fun (w' : World) (hx : Ext w w') => lastRecords_c fv s.flash w' (h.1.ext hx) hF.len hp (fun b hb => hF.pg hb)
      obtain ⟨A, hA⟩ : ∃ A, diskScan s.flash 0 (s.disk.drop 0) = A := ⟨_, rfl⟩
      have hs : storeOkB s = A := by unfold storeOkB; rw [hok, h6, ← hA, List.drop_zero]; rfl
      have HL := Lib.hid (last_ok hF)
      rw [hs]
      have HA := Lib.hid hA
      rw [hok] at hFO
      rw [h6] at hD
      rw [h6]
      have H6 := Lib.hid h6
      subst hfv
      clear hs hA hok hF h6 hp hd
      go_enter Try.func27, Try.ntmps27
      go_wp2_with fail
      refine (hFO _ (ext_alloc (ext_refl _) _)).mono ?_; rintro e1 w1 ⟨rfl, hx1⟩
      have X1 := ext_trans (ext_alloc (ext_refl w) _) hx1
      have G1 := keep_ext hx1 (hg_new (b := w.heap.size) rfl)
      obtain ⟨g1, gf1⟩ := cellsK G1
      have l1 := heap_lt G1
      clear hFO hx1
      go_wp2_with fail
      refine (hLR _ X1).mono ?_; rintro e2 w2 ⟨B, n, rfl, hx2, hB, hM⟩
      have X2 := ext_trans X1 hx2
      replace G1 := keep_ext hx2 G1
      clear g1 gf1 l1
      obtain ⟨g1, gf1⟩ := cellsK G1
      have HM := Lib.hid hM
      clear hLR hx2 hM hB X1
      go_wp2_with fail
      go_loopw [25] (fun y wr => ∃ i : Nat, i ≤ 6 ∧ y = .int .i64 i ∧ Ext w2 wr ∧ Hid (diskScan s.flash i (s.disk.drop i) = A)) (fun y _ => 6 - (intOf y).toNat)
      case atStart => exact ⟨0, by omega, rfl, ext_refl _, HA⟩
      case round =>
        clear HA G1 g1 gf1
        obtain ⟨i, hi, rfl, hX, HR⟩ := hrel
        by_cases hlt : i < 6
        · have hil : i < s.disk.length := by have := H6.out; omega
          obtain ⟨b, o, rfl, hb, c0⟩ := hD.at1 hil
          have hb' : b < w.heap.size := hb
          obtain ⟨hc, hf⟩ := bcell (ext_trans X2 hX)
          rw [diskScan_drop _ _ _ hil] at HR
          have hM := HM.out.ext hX
          have hlk := hM.lookup (t := 69) Try.underlying3 Try.underlying69 (z := recA rec0) (by rfl) (i64_wf (x := (i : Int) + 1) (by omega) (by omega)) true
          simp only [if_true] at hlk
          have hlo := HL.out ((i : Int) + 1)
          unfold lastG at hlk
          generalize last s.flash ((i : Int) + 1) = r at *
          generalize s.disk[i] = d at *
          have HLK := Lib.hid hlk
          have hbd : badDisk r d = (!inB d 0 9 || (decide (0 < r.seq) && r.kind == 2 && r.val != d)) := rfl
          have HBD := Lib.hid hbd
          have X3 := ext_trans X2 hX
          clear hlk hM hbd HL
          cases hin : inB d 0 9
          · have hA : false = A := by have h := HR.out; rw [HBD.out, hin] at h; exact h
            subst hA
            clear HR HBD HLK hlo
            go_wp2_with (go_at_call 51; refine (valOk_c _ _).mono ?_; rintro e w' ⟨rfl, rfl⟩)
            go_ret
            exact ⟨rfl, X3⟩
          · have hlk := HLK.out
            clear HLK
            by_cases h0 : 0 < r.seq
            · rw [if_pos h0] at hlk
              simp only [Option.getD_some, Option.isSome_some] at hlk
              dsimp only [recA] at hlk
              have hk : r.kind = 1 ∨ r.kind = 2 := by
                rcases hlo with h | ⟨h, _⟩
                · rw [h] at h0; exact absurd h0 (by decide)
                · have := recOkB_iff.1 h; omega
              obtain ⟨kb, hkb⟩ : ∃ kb, (r.kind == 1) = kb := ⟨_, rfl⟩
              have hdc := fun w' => isDirty_c r w'
              rw [hkb] at hdc
              dsimp only [recA] at hdc
              have XA : Ext w2 (wr.alloc (.cells #[.int .i64 r.kind, .int .i64 r.seq, .int .i64 r.addr, .int .i64 r.val] 72)) := ext_alloc hX _
              cases kb
              · have hk2 : r.kind = 2 := by
                  rcases hk with h | h
                  · rw [h] at hkb; cases hkb
                  · exact h
                by_cases hv : r.val = d
                · subst hv
                  have HR2 : Hid (diskScan s.flash (i + 1) (s.disk.drop (i + 1)) = A) := Lib.hid (by have h := HR.out; rwa [if_neg (by rw [HBD.out, hin]; simp)] at h)
                  clear hkb hk2
                  clear HR HBD hlo hk
                  go_wp2_with (go_at_call 51; refine (valOk_c _ _).mono ?_; rw [hin]; rintro e w' ⟨rfl, rfl⟩)
                  refine (hdc _).mono ?_; rintro e5 w5 ⟨rfl, hx5⟩
                  have G7 := keep_ext hx5 (hg_new (b := wr.heap.size) rfl)
                  obtain ⟨g7, gf7⟩ := cellsK G7
                  have l7 := heap_lt G7
                  have X5 := ext_trans XA hx5
                  clear hdc hx5 hc hf c0 hlk XA
                  go_wp2_with fail
                  go_roundw
                  case rel => exact ⟨i + 1, by omega, by go_num, X5, HR2⟩
                  case measure => simp [intOf]; omega
                · have hA : false = A := by have h := HR.out; rw [if_pos (by rw [HBD.out, hin, hk2]; simp [h0, hv])] at h; exact h
                  subst hA
                  clear HR HBD hlo hk hkb hk2
                  go_wp2_with (go_at_call 51; refine (valOk_c _ _).mono ?_; rw [hin]; rintro e w' ⟨rfl, rfl⟩)
                  refine (hdc _).mono ?_; rintro e5 w5 ⟨rfl, hx5⟩
                  have G7 := keep_ext hx5 (hg_new (b := wr.heap.size) rfl)
                  obtain ⟨g7, gf7⟩ := cellsK G7
                  have l7 := heap_lt G7
                  have X5 := ext_trans XA hx5
                  clear hdc hx5 hc hf c0 hlk XA
                  go_wp2_with fail
                  go_ret
                  exact ⟨rfl, ext_trans X2 X5⟩
              · have hk1 : r.kind = 1 := by simpa using hkb
                have HR2 : Hid (diskScan s.flash (i + 1) (s.disk.drop (i + 1)) = A) := Lib.hid (by have h := HR.out; rwa [if_neg (by rw [HBD.out, hin, hk1]; simp)] at h)
                clear hkb hk1
                clear HR HBD hlo hk
                go_wp2_with (go_at_call 51; refine (valOk_c _ _).mono ?_; rw [hin]; rintro e w' ⟨rfl, rfl⟩)
                refine (hdc _).mono ?_; rintro e5 w5 ⟨rfl, hx5⟩
                have G7 := keep_ext hx5 (hg_new (b := wr.heap.size) rfl)
                obtain ⟨g7, gf7⟩ := cellsK G7
                have l7 := heap_lt G7
                have X5 := ext_trans XA hx5
                clear hdc hx5 hc hf c0 hlk XA
                go_wp2_with fail
                go_roundw
                case rel => exact ⟨i + 1, by omega, by go_num, X5, HR2⟩
                case measure => simp [intOf]; omega
            · rw [if_neg h0] at hlk
              simp only [Option.getD_none, Option.isSome_none] at hlk
              dsimp only [recA, rec0] at hlk
              have HR2 : Hid (diskScan s.flash (i + 1) (s.disk.drop (i + 1)) = A) := Lib.hid (by have h := HR.out; rwa [if_neg (by rw [HBD.out, hin]; simp [h0])] at h)
              clear HR HBD hlo h0
              go_wp2_with (go_at_call 51; refine (valOk_c _ _).mono ?_; rw [hin]; rintro e w' ⟨rfl, rfl⟩)
              go_roundw
              case rel => exact ⟨i + 1, by omega, by go_num, ext_alloc hX _, HR2⟩
              case measure => simp [intOf]; omega
        · obtain rfl : i = 6 := by omega
          have hr := HR.out
          rw [List.drop_eq_nil_of_le (by rw [H6.out]; omega)] at hr
          have hr : true = A := hr
          subst hr
          go_wp2_with fail
          go_ret
          exact ⟨rfl, ext_trans X2 hX⟩
    · have hs : storeOkB s = false := by unfold storeOkB; rw [Bool.not_eq_true] at hok; rw [hok]; rfl
      rw [Bool.not_eq_true] at hok
      rw [hok] at hFO
      rw [hs, h6]
      subst hfv
      clear hs hok
      go_enter Try.func27, Try.ntmps27
      go_wp2_with fail
      refine (hFO _ (ext_alloc (ext_refl _) _)).mono ?_; rintro e1 w1 ⟨rfl, hx1⟩
      go_wp2_with fail
      go_ret
      exact ⟨rfl, ext_trans (ext_alloc (ext_refl w) _) hx1⟩
  · have hs : storeOkB s = false := by unfold storeOkB; rw [show (s.disk.length == 6) = false by simpa using h6]; simp
    rw [hs]
    subst hfv
    have h6' : (s.disk.length != 6) = true := by simpa using h6
    go_enter Try.func27, Try.ntmps27
    go_wp2_with fail
    go_ret
    exact ⟨rfl, ext_alloc (ext_refl w) _⟩

theorem implPairOk_c (f d g e : Value) (p : Pair) (w : World) (hA : StoreV w f d p.A) (hB : StoreV w g e p.B) (hpA : ∀ b ∈ p.A.flash, b.pages.length ≤ 1048576) (hpB : ∀ b ∈ p.B.flash, b.pages.length ≤ 1048576) (hdA : p.A.disk.length ≤ 1048576) (hdB : p.B.disk.length ≤ 1048576) :
    Calls Try.prog 25 #[.agg #[f, d, g, e, .int .i64 p.lost]] w (Ret w (.bool (inB p.lost 0 2 && (storeOkB p.A && storeOkB p.B)))) := by
  have hFA := fun (w' : World) (hx : Ext w w') => implStoreOk_c f d p.A w' (hA.ext hx) hpA hdA
  have hFB := fun (w' : World) (hx : Ext w w') => implStoreOk_c g e p.B w' (hB.ext hx) hpB hdB
  obtain ⟨a1, c1, rfl⟩ := hA.1.form
  obtain ⟨a2, c2, rfl⟩ := hA.2.form
  obtain ⟨a3, c3, rfl⟩ := hB.1.form
  obtain ⟨a4, c4, rfl⟩ := hB.2.form
  generalize storeOkB p.A = u at *
  generalize storeOkB p.B = v at *
  by_cases h1 : 0 ≤ p.lost
  · by_cases h2 : p.lost ≤ 2
    · have hi : inB p.lost 0 2 = true := inB_iff.2 ⟨h1, h2⟩
      rw [hi]
      clear hi
      cases u
      · go_enter Try.func25, Try.ntmps25
        go_wp2_with fail
        refine (hFA _ (ext_alloc (ext_refl _) _)).mono ?_; rintro e1 w1 ⟨rfl, hx1⟩
        go_wp2_with fail
        go_ret
        exact ⟨rfl, ext_trans (ext_alloc (ext_refl w) _) hx1⟩
      · go_enter Try.func25, Try.ntmps25
        go_wp2_with fail
        refine (hFA _ (ext_alloc (ext_refl _) _)).mono ?_; rintro e1 w1 ⟨rfl, hx1⟩
        have G1 := keep_ext hx1 (hg_new (b := w.heap.size) rfl)
        obtain ⟨g1, gf1⟩ := cellsK G1
        have l1 := heap_lt G1
        have X1 := ext_trans (ext_alloc (ext_refl w) _) hx1
        clear hFA
        go_wp2_with fail
        refine (hFB _ X1).mono ?_; rintro e2 w2 ⟨rfl, hx2⟩
        go_wp2_with fail
        go_ret
        exact ⟨rfl, ext_trans X1 hx2⟩
    · have hi : inB p.lost 0 2 = false := inB_no.2 (by omega)
      rw [hi]
      clear hi
      go_enter Try.func25, Try.ntmps25
      go_wp2_with fail
      go_ret
      exact ⟨rfl, ext_alloc (ext_refl w) _⟩
  · have hi : inB p.lost 0 2 = false := inB_no.2 (by omega)
    rw [hi]
    clear hi
    go_enter Try.func25, Try.ntmps25
    go_wp2_with fail
    go_ret
    exact ⟨rfl, ext_alloc (ext_refl w) _⟩
end Go.Bu

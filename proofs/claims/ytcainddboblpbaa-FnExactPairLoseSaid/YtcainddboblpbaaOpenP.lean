/- Arguments that hold blocks, opened: stores and pairs. -/
import Derived.Test.YtcainddboblpbaaOpen
import Derived.Test.YtcainddboblpbaaStoreS
set_option linter.unusedVariables false
set_option linter.unusedSimpArgs false
namespace Go.Bu
open Go Go.RowKit Go.Plan Go.Proofs

/-- lengths that fit -/
def Fin63 (s : Store) : Prop := s.flash.length ≤ 9223372036854775807 ∧ (∀ b ∈ s.flash, b.pages.length ≤ 9223372036854775807) ∧ s.disk.length ≤ 9223372036854775807
def StoreIn (w : World) (v : Value) (s : Store) : Prop := ∃ f d, v = .agg #[f, d] ∧ StoreV w f d s ∧ Fin63 s
def PairIn (w : World) (v : Value) (p : Pair) : Prop := ∃ f d g e, v = .agg #[f, d, g, e, .int .i64 p.lost] ∧ (StoreV w f d p.A ∧ Fin63 p.A) ∧ StoreV w g e p.B ∧ Fin63 p.B

theorem opens_page : Opens Try.prog 154 (plain pageC) := by
  intro H enc w spare held fuel cs x h
  have hl := len_at Try.underlying154 h (n := 5) (by kernel_rfl)
  match cs, hl with
  | [c0, c1, c2, c3, c4], _ =>
    obtain ⟨a, ha⟩ := int_at Try.underlying154 h 0 rfl cellsInt Try.underlying3
    obtain ⟨m, y, hy⟩ := field_at Try.underlying154 h 1 rfl (len := 4) (by kernel_rfl)
    obtain ⟨r, hr⟩ := opens_rec hy
    simp at ha hr
    subst ha
    obtain ⟨rfl, rfl, rfl, rfl⟩ := hr
    exact ⟨⟨a, r⟩, rfl⟩

def blockE2 : Enc Block := fun D w b cs => blockE D w b cs ∧ b.pages.length ≤ 9223372036854775807
theorem opens_block : Opens Try.prog 112 blockE2 := by
  intro H enc w spare held fuel cs x h
  have hl := len_at Try.underlying112 h (n := 2) (by kernel_rfl)
  match cs, hl with
  | [c0, c1], _ =>
    obtain ⟨m, y, hy⟩ := field_at Try.underlying112 h 0 rfl (len := 1) (by kernel_rfl)
    obtain ⟨a, ha⟩ := int_at Try.underlying112 h 1 rfl cellsInt Try.underlying3
    simp at ha
    subst ha
    obtain ⟨ps, hps, hpl, _⟩ := open_sl (n := 5) Try.underlying110 (by kernel_rfl) (by omega) opens_page hy
    exact ⟨⟨ps, a⟩, ⟨_, rfl, hps⟩, hpl⟩
theorem flash_of {D : Nat → Prop} {w : World} {v : Value} {f : List Block} (h : Sl 2 blockE2 D w v f) : Flash D w v f ∧ ∀ b ∈ f, b.pages.length ≤ 9223372036854775807 := by
  obtain ⟨a, cap, hv, hx⟩ := h
  refine ⟨⟨a, cap, hv, fun i x hi => ?_⟩, fun b hb => ?_⟩
  · obtain ⟨b, o, cs, h1, h2, h3, h4⟩ := hx i x hi
    exact ⟨b, o, cs, h1, h2, h3.1, h4⟩
  · obtain ⟨i, hi⟩ := List.mem_iff_getElem?.1 hb
    obtain ⟨_, _, _, _, _, h3, _⟩ := hx i b hi
    exact h3.2
theorem opens_store {fuel : Nat} {H : Type} {enc : TypeId × Value → H} {w : World} {spare : Nat → Bool} {held : Bool} {cs : List Value} {x : DataW H × List MemPlace}
    (h : DataW.trod enc Try.prog w 0 spare held fuel 25 cs = some x) : ∃ (s : Store) (f d : Value), cs = [f, d] ∧ StoreV w f d s ∧ Fin63 s := by
  have hl := len_at Try.underlying25 h (n := 2) (by kernel_rfl)
  match cs, hl with
  | [c0, c1], _ =>
    obtain ⟨m, y, hy⟩ := field_at Try.underlying25 h 0 rfl (len := 1) (by kernel_rfl)
    obtain ⟨m2, y2, hy2⟩ := field_at Try.underlying25 h 1 rfl (len := 1) (by kernel_rfl)
    obtain ⟨f, hf, hfl, _⟩ := open_sl (n := 2) Try.underlying22 (by kernel_rfl) (by omega) opens_block hy
    obtain ⟨d, hd, hdl, _⟩ := open_sl (n := 1) Try.underlying23 (by kernel_rfl) (by omega) opens_int hy2
    obtain ⟨hF, hp⟩ := flash_of hf
    exact ⟨⟨f, d⟩, c0, c1, rfl, ⟨hF, hd⟩, hfl, hp, hdl⟩

set_option maxRecDepth 100000 in
theorem is_store {H : Type} {enc : TypeId × Value → H} {w : World} {r : Reach} {base : Nat} {v : Value} {d : DataW H} {ps : List MemPlace} (hv : Value.okWide Try.prog w r base 25 v) (h : DataW.Trod enc Try.prog w 0 (fun _ => true) true 25 v d ps) :
    ∃ s : Store, StoreIn w v s := by
  obtain ⟨fuel, hf⟩ := h
  obtain ⟨s, f, d, hc, h1, h2⟩ := opens_store hf
  obtain ⟨cs, rfl, _⟩ := WideShapes.okWide_struct Try.underlying25 hv
  refine ⟨s, f, d, ?_, h1, h2⟩
  have : cs = #[f, d] := by rw [← Array.toList_inj]; exact hc
  rw [this]

set_option maxRecDepth 100000 in
theorem is_pair {H : Type} {enc : TypeId × Value → H} {w : World} {r : Reach} {base : Nat} {v : Value} {d : DataW H} {ps : List MemPlace} (hv : Value.okWide Try.prog w r base 27 v) (h : DataW.Trod enc Try.prog w 0 (fun _ => true) true 27 v d ps) :
    ∃ p : Pair, PairIn w v p := by
  obtain ⟨fuel, hf⟩ := h
  obtain ⟨cs, rfl, _⟩ := WideShapes.okWide_struct Try.underlying27 hv
  have hf : DataW.trod enc Try.prog w 0 (fun _ => true) true fuel 27 cs.toList = some (d, ps) := hf
  have hl := len_at Try.underlying27 hf (n := 5) (by kernel_rfl)
  obtain ⟨m, y, hy⟩ := field_at Try.underlying27 hf 0 rfl (len := 2) (by kernel_rfl)
  obtain ⟨m2, y2, hy2⟩ := field_at Try.underlying27 hf 1 rfl (len := 2) (by kernel_rfl)
  obtain ⟨l, hlost⟩ := int_at Try.underlying27 hf 2 rfl cellsInt Try.underlying3
  obtain ⟨sa, f, d1, h1, h2, h3⟩ := opens_store hy
  obtain ⟨sb, g, e, h4, h5, h6⟩ := opens_store hy2
  obtain ⟨xs⟩ := cs
  match xs, hl with
  | [c0, c1, c2, c3, c4], _ =>
    simp at h1 h4 hlost
    obtain ⟨rfl, rfl⟩ := h1
    obtain ⟨rfl, rfl⟩ := h4
    subst hlost
    exact ⟨⟨sa, sb, l⟩, _, _, _, _, rfl, ⟨h2, h3⟩, h5, h6⟩

/-! ### the sum of the lengths -/
def Small (s : Store) : Prop := s.flash.length ≤ 1048576 ∧ (∀ b ∈ s.flash, b.pages.length ≤ 1048576) ∧ s.disk.length ≤ 1048576
def SzΦ (b : Int) (P : Prop) (v : Value) (w' : World) : Prop := ∃ r : Int, v = .int .i64 r ∧ (r < 0 ∨ (0 ≤ r ∧ r ≤ b ∧ P))

theorem szPageS_c (v : Value) (ps : List Page) (b : Int) (w : World) (h : Pages (Old w) w v ps) (hl : ps.length ≤ 9223372036854775807) (hb : 0 ≤ b ∧ b ≤ 1048576) :
    Calls Try.prog 101 #[v, .int .i64 b] w (RetP w (SzΦ b (ps.length ≤ 1048576))) := by
  obtain ⟨a, cap, rfl⟩ := h.form
  go_enter Try.func101, Try.ntmps101
  go_wp2
  all_goals
    try simp only [beq_iff_eq, Bool.not_eq_true, beq_eq_false_iff_ne, ne_eq, bne_iff_ne, bne_eq_false_iff_eq, decide_eq_true_eq, decide_eq_false_iff_not] at *
    go_ret
    first
    | exact ⟨_, rfl, ext_refl _, -1, rfl, .inl (by omega)⟩
    | exact ⟨_, rfl, ext_refl _, _, rfl, .inr ⟨by omega, by omega, by omega⟩⟩
theorem szIntS_c (v : Value) (ps : List Int) (b : Int) (w : World) (h : Ints (Old w) w v ps) (hl : ps.length ≤ 9223372036854775807) (hb : 0 ≤ b ∧ b ≤ 1048576) :
    Calls Try.prog 55 #[v, .int .i64 b] w (RetP w (SzΦ b (ps.length ≤ 1048576))) := by
  obtain ⟨a, cap, rfl⟩ := h.form
  go_enter Try.func55, Try.ntmps55
  go_wp2
  all_goals
    try simp only [beq_iff_eq, Bool.not_eq_true, beq_eq_false_iff_ne, ne_eq, bne_iff_ne, bne_eq_false_iff_eq, decide_eq_true_eq, decide_eq_false_iff_not] at *
    go_ret
    first
    | exact ⟨_, rfl, ext_refl _, -1, rfl, .inl (by omega)⟩
    | exact ⟨_, rfl, ext_refl _, _, rfl, .inr ⟨by omega, by omega, by omega⟩⟩
theorem szBlock_c (pv : Value) (x : Block) (b : Int) (w : World) (h : Pages (Old w) w pv x.pages) (hl : x.pages.length ≤ 9223372036854775807) (hb : 0 ≤ b ∧ b ≤ 1048576) :
    Calls Try.prog 80 #[.agg #[pv, .int .i64 x.worn], .int .i64 b] w (RetP w (SzΦ b (x.pages.length ≤ 1048576))) := by
  have hc := fun (w' : World) (hx : Ext w w') => szPageS_c pv x.pages b w' (h.ext hx) hl hb
  obtain ⟨a, cap, rfl⟩ := h.form
  go_enter Try.func80, Try.ntmps80
  go_wp2_with fail
  refine (hc _ (ext_alloc (ext_refl _) _)).mono ?_; rintro e w1 ⟨v1, rfl, hx1, r, rfl, hr⟩
  go_wp2_with fail
  all_goals
    try simp only [beq_iff_eq, Bool.not_eq_true, beq_eq_false_iff_ne, ne_eq, bne_iff_ne, bne_eq_false_iff_eq, decide_eq_true_eq, decide_eq_false_iff_not] at *
    go_ret
    first
    | exact ⟨_, rfl, ext_trans (ext_alloc (ext_refl _) _) hx1, -1, rfl, .inl (by omega)⟩
    | exact ⟨_, rfl, ext_trans (ext_alloc (ext_refl _) _) hx1, _, rfl, hr⟩
set_option maxHeartbeats 1000000 in
theorem szBlockS_c (v : Value) (f : List Block) (b : Int) (w : World) (h : Flash (Old w) w v f) (hl : f.length ≤ 9223372036854775807) (hp : ∀ b ∈ f, b.pages.length ≤ 9223372036854775807) (hb : 0 ≤ b ∧ b ≤ 1048576) :
    Calls Try.prog 54 #[v, .int .i64 b] w (RetP w (SzΦ b (f.length ≤ 1048576 ∧ ∀ x ∈ f, x.pages.length ≤ 1048576))) := by
  obtain ⟨a, cap, rfl⟩ := h.form
  have HP := Lib.hid hp
  clear hp
  by_cases hneg : b - f.length < 0
  · go_enter Try.func54, Try.ntmps54
    go_wp2
    go_ret
    exact ⟨_, rfl, ext_refl _, -1, rfl, .inl (by omega)⟩
  · go_enter Try.func54, Try.ntmps54
    go_wp2
    have H0 : Hid (∀ x ∈ f.take 0, x.pages.length ≤ 1048576) := Lib.hid (fun x hx => by simp at hx)
    go_loopw [1, 5] (fun n y wr => ∃ (k : Nat) (m : Int), k ≤ f.length ∧ y = .int .i64 k ∧ n = .int .i64 m ∧ 0 ≤ m ∧ m ≤ b ∧ Ext w wr ∧ Hid (∀ x ∈ f.take k, x.pages.length ≤ 1048576)) (fun _ y _ => f.length - (intOf y).toNat)
    case atStart => exact ⟨0, b - f.length, by omega, rfl, rfl, by omega, by omega, ext_refl _, H0⟩
    case round =>
      clear H0
      obtain ⟨k, m, hk, rfl, rfl, hm0, hm1, hX, HK⟩ := hrel
      by_cases hlt : k < f.length
      · obtain ⟨b2, o, pv, rfl, hb2, hpp, e0, e1⟩ := h.at2 hlt
        have hb' : b2 < w.heap.size := hb2
        obtain ⟨hc, hf⟩ := bcell hX
        obtain ⟨pa, pcap, rfl⟩ := hpp.form
        go_wp2_with fail
        refine (szBlock_c _ f[k] m _ (hpp.ext hX) (HP.out _ (List.getElem_mem _)) ⟨hm0, by omega⟩).mono ?_; rintro e w1 ⟨v1, rfl, hx1, r, rfl, hr⟩
        by_cases hr0 : r < 0
        · go_wp2_with fail
          go_ret
          exact ⟨_, rfl, ext_trans hX hx1, -1, rfl, .inl (by omega)⟩
        · have hrr := hr.resolve_left hr0
          have HK2 : Hid (∀ x ∈ f.take (k + 1), x.pages.length ≤ 1048576) := Lib.hid (fun x hx => by
            rw [← take_snoc f k hlt, List.mem_append] at hx
            rcases hx with hx | hx
            · exact HK.out x hx
            · simp at hx; subst hx; exact hrr.2.2)
          obtain ⟨r0, r1, _⟩ := hrr
          clear hr HK e0 e1 hc hf
          go_wp2_with fail
          go_roundw
          case rel => exact ⟨k + 1, r, by omega, by go_num, rfl, r0, by omega, ext_trans hX hx1, HK2⟩
          case measure => simp [intOf]; omega
      · obtain rfl : k = f.length := by omega
        go_wp2_with fail
        go_ret
        exact ⟨_, rfl, hX, m, rfl, .inr ⟨hm0, hm1, by omega, by have := HK.out; rwa [List.take_length] at this⟩⟩
theorem szStore_c (f d : Value) (s : Store) (b : Int) (w : World) (h : StoreV w f d s) (hF : Fin63 s) (hb : 0 ≤ b ∧ b ≤ 1048576) :
    Calls Try.prog 31 #[.agg #[f, d], .int .i64 b] w (RetP w (SzΦ b (Small s))) := by
  have hc1 := fun (w' : World) (hx : Ext w w') => szBlockS_c f s.flash b w' (h.1.ext hx) hF.1 hF.2.1 hb
  have hc2 := fun (w' : World) (hx : Ext w w') (m : Int) (hm : 0 ≤ m ∧ m ≤ 1048576) => szIntS_c d s.disk m w' (h.2.ext hx) hF.2.2 hm
  obtain ⟨a, cap, rfl⟩ := h.1.form
  obtain ⟨a2, cap2, rfl⟩ := h.2.form
  go_enter Try.func31, Try.ntmps31
  go_wp2_with fail
  refine (hc1 _ (ext_alloc (ext_refl _) _)).mono ?_; rintro e w1 ⟨v1, rfl, hx1, r, rfl, hr⟩
  have G1 := keep_ext hx1 (hg_new (b := w.heap.size) rfl)
  obtain ⟨g1, gf1⟩ := cellsK G1
  have l1 := heap_lt G1
  have X1 := ext_trans (ext_alloc (ext_refl w) _) hx1
  clear hc1
  by_cases hr0 : r < 0
  · go_wp2_with fail
    go_ret
    exact ⟨_, rfl, X1, -1, rfl, .inl (by omega)⟩
  · obtain ⟨r0, r1, hP⟩ := hr.resolve_left hr0
    have HP := Lib.hid hP
    clear hr hP
    go_wp2_with fail
    refine (hc2 _ X1 r ⟨r0, by omega⟩).mono ?_; rintro e w2 ⟨v2, rfl, hx2, m, rfl, hm⟩
    go_wp2_with fail
    all_goals
      try simp only [beq_iff_eq, Bool.not_eq_true, beq_eq_false_iff_ne, ne_eq, bne_iff_ne, bne_eq_false_iff_eq, decide_eq_true_eq, decide_eq_false_iff_not] at *
      go_ret
      first
      | exact ⟨_, rfl, ext_trans X1 hx2, -1, rfl, .inl (by omega)⟩
      | (obtain ⟨m0, m1, m2⟩ := hm.resolve_left (by omega); exact ⟨_, rfl, ext_trans X1 hx2, m, rfl, .inr ⟨m0, by omega, HP.out.1, HP.out.2, m2⟩⟩)
theorem szPair_c (f d g e : Value) (p : Pair) (b : Int) (w : World) (hA : StoreV w f d p.A) (hFA : Fin63 p.A) (hB : StoreV w g e p.B) (hFB : Fin63 p.B) (hb : 0 ≤ b ∧ b ≤ 1048576) :
    Calls Try.prog 8 #[.agg #[f, d, g, e, .int .i64 p.lost], .int .i64 b] w (RetP w (SzΦ b (Small p.A ∧ Small p.B))) := by
  have hc1 := fun (w' : World) (hx : Ext w w') => szStore_c f d p.A b w' (hA.ext hx) hFA hb
  have hc2 := fun (w' : World) (hx : Ext w w') (m : Int) (hm : 0 ≤ m ∧ m ≤ 1048576) => szStore_c g e p.B m w' (hB.ext hx) hFB hm
  obtain ⟨a1, n1, rfl⟩ := hA.1.form
  obtain ⟨a2, n2, rfl⟩ := hA.2.form
  obtain ⟨a3, n3, rfl⟩ := hB.1.form
  obtain ⟨a4, n4, rfl⟩ := hB.2.form
  go_enter Try.func8, Try.ntmps8
  go_wp2_with fail
  refine (hc1 _ (ext_alloc (ext_refl _) _)).mono ?_; rintro e w1 ⟨v1, rfl, hx1, r, rfl, hr⟩
  have G1 := keep_ext hx1 (hg_new (b := w.heap.size) rfl)
  obtain ⟨g1, gf1⟩ := cellsK G1
  have l1 := heap_lt G1
  have X1 := ext_trans (ext_alloc (ext_refl w) _) hx1
  clear hc1
  by_cases hr0 : r < 0
  · go_wp2_with fail
    go_ret
    exact ⟨_, rfl, X1, -1, rfl, .inl (by omega)⟩
  · obtain ⟨r0, r1, hP⟩ := hr.resolve_left hr0
    have HP := Lib.hid hP
    clear hr hP
    go_wp2_with fail
    refine (hc2 _ X1 r ⟨r0, by omega⟩).mono ?_; rintro e w2 ⟨v2, rfl, hx2, m, rfl, hm⟩
    go_wp2_with fail
    all_goals
      try simp only [beq_iff_eq, Bool.not_eq_true, beq_eq_false_iff_ne, ne_eq, bne_iff_ne, bne_eq_false_iff_eq, decide_eq_true_eq, decide_eq_false_iff_not] at *
      go_ret
      first
      | exact ⟨_, rfl, ext_trans X1 hx2, -1, rfl, .inl (by omega)⟩
      | (obtain ⟨m0, m1, m2⟩ := hm.resolve_left (by omega); exact ⟨_, rfl, ext_trans X1 hx2, m, rfl, .inr ⟨m0, by omega, HP.out, m2⟩⟩)
end Go.Bu

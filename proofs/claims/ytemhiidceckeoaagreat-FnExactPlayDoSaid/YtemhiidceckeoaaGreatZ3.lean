/- Arguments that hold blocks, opened: stores and pairs. The laws' marks: what they write into a result, and that it is held. The laws' copies of blocks, stores and pairs: in memory of their own. The laws' comparisons of stores and pairs: eqStore, eqPair, lqFlash, lqStore, lqPair. The reference's PairOk; equality with itself. Stores of a call's own, all their addresses named: what is read, and what each write in place leaves. Rows of the call's own that grow by append, also within a region that draws its order. By which steps a record is written, as the reference says it: l12Room, l12Write, l12Flush, l12Fill, l21Steps, PlaySteps. Steps of an event, as the reference says them: l21Steps, PlaySteps. Steps done in place, as the reference does them: l2Seq, l2Wipe, l2Write, l12Do. Steps done one behind the other, and what happens to a store, as the reference does it in place: l12To, l21All, l21Do. A flash that is well formed, in plain words; what writing and wiping leave of it. Writing, wiping, and whatever an event does, leaves a flash well formed. A region that draws its order, in the body of a loop over an iterator: the rule of Plan, carried over. The program's iterator over the pages of a flash: what it hands to a loop's body. -/
import Derived.Test.YtemhiidceckeoaaGreatZ1
import Derived.Test.YtemhiidceckeoaaGreatZ2
import Derived.IntWalk
import Derived.RangeFuncNested
import Derived.RangeFuncBound
import Derived.RangeFuncCalls
import Derived.RangeFuncLeaves
import Derived.OrdersIn
import Derived.Shelf.Abstract
import Derived.Shelf.RegionOpen
import Derived.WalkKit
import Derived.OwnWalkIn
import Derived.TacticsInMore
import Derived.LoopNIn
import Derived.LoopIn
set_option maxHeartbeats 2000000
set_option linter.unusedVariables false
set_option linter.unusedSimpArgs false
namespace Go.Bu
open Go Go.RowKit Go.Plan Go.Proofs

/-- lengths that fit -/
def Fin63 (s : Store) : Prop := s.flash.length ≤ 9223372036854775807 ∧ (∀ b ∈ s.flash, b.pages.length ≤ 9223372036854775807) ∧ s.disk.length ≤ 9223372036854775807
def StoreIn (w : World) (v : Value) (s : Store) : Prop := ∃ f d, v = .agg #[f, d] ∧ StoreV w f d s ∧ Fin63 s
def PairIn (w : World) (v : Value) (p : Pair) : Prop := ∃ f d g e, v = .agg #[f, d, g, e, .int .i64 p.lost] ∧ (StoreV w f d p.A ∧ Fin63 p.A) ∧ StoreV w g e p.B ∧ Fin63 p.B

theorem opens_page : Opens Tryz.prog 165 (plain pageC) := by
  intro H enc w spare held fuel cs x h
  have hl := len_at Tryz.underlying165 h (n := 5) (by kernel_rfl)
  match cs, hl with
  | [c0, c1, c2, c3, c4], _ =>
    obtain ⟨a, ha⟩ := int_at Tryz.underlying165 h 0 rfl cellsInt Tryz.underlying3
    obtain ⟨m, y, hy⟩ := field_at Tryz.underlying165 h 1 rfl (len := 4) (by kernel_rfl)
    obtain ⟨r, hr⟩ := opens_rec hy
    simp at ha hr
    subst ha
    obtain ⟨rfl, rfl, rfl, rfl⟩ := hr
    exact ⟨⟨a, r⟩, rfl⟩

def blockE2 : Enc Block := fun D w b cs => blockE D w b cs ∧ b.pages.length ≤ 9223372036854775807
theorem opens_block : Opens Tryz.prog 101 blockE2 := by
  intro H enc w spare held fuel cs x h
  have hl := len_at Tryz.underlying101 h (n := 2) (by kernel_rfl)
  match cs, hl with
  | [c0, c1], _ =>
    obtain ⟨m, y, hy⟩ := field_at Tryz.underlying101 h 0 rfl (len := 1) (by kernel_rfl)
    obtain ⟨a, ha⟩ := int_at Tryz.underlying101 h 1 rfl cellsInt Tryz.underlying3
    simp at ha
    subst ha
    obtain ⟨ps, hps, hpl, _⟩ := open_sl (n := 5) Tryz.underlying99 (by kernel_rfl) (by omega) opens_page hy
    exact ⟨⟨ps, a⟩, ⟨_, rfl, hps⟩, hpl⟩
theorem flash_of {D : Nat → Prop} {w : World} {v : Value} {f : List Block} (h : Sl 2 blockE2 D w v f) : Flash D w v f ∧ ∀ b ∈ f, b.pages.length ≤ 9223372036854775807 := by
  obtain ⟨a, cap, hv, hx⟩ := h
  refine ⟨⟨a, cap, hv, fun i x hi => ?_⟩, fun b hb => ?_⟩
  · obtain ⟨b, o, cs, h1, h2, h3, h4⟩ := hx i x hi
    exact ⟨b, o, cs, h1, h2, h3.1, h4⟩
  · obtain ⟨i, hi⟩ := List.mem_iff_getElem?.1 hb
    obtain ⟨_, _, _, _, _, h3, _⟩ := hx i b hi
    exact h3.2
theorem opens_store {fuel : Nat} {H : Type} {enc : TypeId × Value → H} {w : World} {spare : Nat → Bool} {held : Bool} {cs : List Value} {x : DataW H × List MemPlace}
    (h : DataW.trod enc Tryz.prog w 0 spare held fuel 25 cs = some x) : ∃ (s : Store) (f d : Value), cs = [f, d] ∧ StoreV w f d s ∧ Fin63 s := by
  have hl := len_at Tryz.underlying25 h (n := 2) (by kernel_rfl)
  match cs, hl with
  | [c0, c1], _ =>
    obtain ⟨m, y, hy⟩ := field_at Tryz.underlying25 h 0 rfl (len := 1) (by kernel_rfl)
    obtain ⟨m2, y2, hy2⟩ := field_at Tryz.underlying25 h 1 rfl (len := 1) (by kernel_rfl)
    obtain ⟨f, hf, hfl, _⟩ := open_sl (n := 2) Tryz.underlying22 (by kernel_rfl) (by omega) opens_block hy
    obtain ⟨d, hd, hdl, _⟩ := open_sl (n := 1) Tryz.underlying23 (by kernel_rfl) (by omega) opens_int hy2
    obtain ⟨hF, hp⟩ := flash_of hf
    exact ⟨⟨f, d⟩, c0, c1, rfl, ⟨hF, hd⟩, hfl, hp, hdl⟩

set_option maxRecDepth 100000 in
theorem is_store {H : Type} {enc : TypeId × Value → H} {w : World} {r : Reach} {base : Nat} {v : Value} {d : DataW H} {ps : List MemPlace} (hv : Value.okWide Tryz.prog w r base 25 v) (h : DataW.Trod enc Tryz.prog w 0 (fun _ => true) true 25 v d ps) :
    ∃ s : Store, StoreIn w v s := by
  obtain ⟨fuel, hf⟩ := h
  obtain ⟨s, f, d, hc, h1, h2⟩ := opens_store hf
  obtain ⟨cs, rfl, _⟩ := WideShapes.okWide_struct Tryz.underlying25 hv
  refine ⟨s, f, d, ?_, h1, h2⟩
  have : cs = #[f, d] := by rw [← Array.toList_inj]; exact hc
  rw [this]

set_option maxRecDepth 100000 in
theorem is_pair {H : Type} {enc : TypeId × Value → H} {w : World} {r : Reach} {base : Nat} {v : Value} {d : DataW H} {ps : List MemPlace} (hv : Value.okWide Tryz.prog w r base 27 v) (h : DataW.Trod enc Tryz.prog w 0 (fun _ => true) true 27 v d ps) :
    ∃ p : Pair, PairIn w v p := by
  obtain ⟨fuel, hf⟩ := h
  obtain ⟨cs, rfl, _⟩ := WideShapes.okWide_struct Tryz.underlying27 hv
  have hf : DataW.trod enc Tryz.prog w 0 (fun _ => true) true fuel 27 cs.toList = some (d, ps) := hf
  have hl := len_at Tryz.underlying27 hf (n := 5) (by kernel_rfl)
  obtain ⟨m, y, hy⟩ := field_at Tryz.underlying27 hf 0 rfl (len := 2) (by kernel_rfl)
  obtain ⟨m2, y2, hy2⟩ := field_at Tryz.underlying27 hf 1 rfl (len := 2) (by kernel_rfl)
  obtain ⟨l, hlost⟩ := int_at Tryz.underlying27 hf 2 rfl cellsInt Tryz.underlying3
  obtain ⟨sa, f, d1, h1, h2, h3⟩ := opens_store hy
  obtain ⟨sb, g, e, h4, h5, h6⟩ := opens_store hy2
  obtain ⟨xs⟩ := cs
  match xs, hl with
  | [c0, c1, c2, c3, c4], _ =>
    simp at h1 h4 hlost
    obtain ⟨rfl, rfl⟩ := h1
    obtain ⟨rfl, rfl⟩ := h4
    subst hlost
    exact ⟨⟨sa, sb, l⟩, _, _, _, _, rfl, ⟨h2, h3⟩, h5, h6⟩

/-! ### the sum of the lengths -/
def Small (s : Store) : Prop := s.flash.length ≤ 1048576 ∧ (∀ b ∈ s.flash, b.pages.length ≤ 1048576) ∧ s.disk.length ≤ 1048576
def SzΦ (b : Int) (P : Prop) (v : Value) (w' : World) : Prop := ∃ r : Int, v = .int .i64 r ∧ (r < 0 ∨ (0 ≤ r ∧ r ≤ b ∧ P))

theorem szPageS_c (v : Value) (ps : List Page) (b : Int) (w : World) (h : Pages (Old w) w v ps) (hl : ps.length ≤ 9223372036854775807) (hb : 0 ≤ b ∧ b ≤ 1048576) :
    Calls Tryz.prog 101 #[v, .int .i64 b] w (RetP w (SzΦ b (ps.length ≤ 1048576))) := by
  obtain ⟨a, cap, rfl⟩ := h.form
  go_enter Tryz.func101, Tryz.ntmps101
  go_wp2
  all_goals
    try simp only [beq_iff_eq, Bool.not_eq_true, beq_eq_false_iff_ne, ne_eq, bne_iff_ne, bne_eq_false_iff_eq, decide_eq_true_eq, decide_eq_false_iff_not] at *
    go_ret
    first
    | exact ⟨_, rfl, ext_refl _, -1, rfl, .inl (by omega)⟩
    | exact ⟨_, rfl, ext_refl _, _, rfl, .inr ⟨by omega, by omega, by omega⟩⟩
theorem szIntS_c (v : Value) (ps : List Int) (b : Int) (w : World) (h : Ints (Old w) w v ps) (hl : ps.length ≤ 9223372036854775807) (hb : 0 ≤ b ∧ b ≤ 1048576) :
    Calls Tryz.prog 41 #[v, .int .i64 b] w (RetP w (SzΦ b (ps.length ≤ 1048576))) := by
  obtain ⟨a, cap, rfl⟩ := h.form
  go_enter Tryz.func41, Tryz.ntmps41
  go_wp2
  all_goals
    try simp only [beq_iff_eq, Bool.not_eq_true, beq_eq_false_iff_ne, ne_eq, bne_iff_ne, bne_eq_false_iff_eq, decide_eq_true_eq, decide_eq_false_iff_not] at *
    go_ret
    first
    | exact ⟨_, rfl, ext_refl _, -1, rfl, .inl (by omega)⟩
    | exact ⟨_, rfl, ext_refl _, _, rfl, .inr ⟨by omega, by omega, by omega⟩⟩
theorem szBlock_c (pv : Value) (x : Block) (b : Int) (w : World) (h : Pages (Old w) w pv x.pages) (hl : x.pages.length ≤ 9223372036854775807) (hb : 0 ≤ b ∧ b ≤ 1048576) :
    Calls Tryz.prog 67 #[.agg #[pv, .int .i64 x.worn], .int .i64 b] w (RetP w (SzΦ b (x.pages.length ≤ 1048576))) := by
  have hc := fun (w' : World) (hx : Ext w w') => szPageS_c pv x.pages b w' (h.ext hx) hl hb
  obtain ⟨a, cap, rfl⟩ := h.form
  go_enter Tryz.func67, Tryz.ntmps67
  go_wp2_with fail
  refine (hc _ (ext_alloc (ext_refl _) _)).mono ?_; rintro e w1 ⟨v1, rfl, hx1, r, rfl, hr⟩
  go_wp2_with fail
  all_goals
    try simp only [beq_iff_eq, Bool.not_eq_true, beq_eq_false_iff_ne, ne_eq, bne_iff_ne, bne_eq_false_iff_eq, decide_eq_true_eq, decide_eq_false_iff_not] at *
    go_ret
    first
    | exact ⟨_, rfl, ext_trans (ext_alloc (ext_refl _) _) hx1, -1, rfl, .inl (by omega)⟩
    | exact ⟨_, rfl, ext_trans (ext_alloc (ext_refl _) _) hx1, _, rfl, hr⟩
set_option maxHeartbeats 1000000 in
theorem szBlockS_c (v : Value) (f : List Block) (b : Int) (w : World) (h : Flash (Old w) w v f) (hl : f.length ≤ 9223372036854775807) (hp : ∀ b ∈ f, b.pages.length ≤ 9223372036854775807) (hb : 0 ≤ b ∧ b ≤ 1048576) :
    Calls Tryz.prog 40 #[v, .int .i64 b] w (RetP w (SzΦ b (f.length ≤ 1048576 ∧ ∀ x ∈ f, x.pages.length ≤ 1048576))) := by
  obtain ⟨a, cap, rfl⟩ := h.form
  have HP := Lib.hid hp
  clear hp
  by_cases hneg : b - f.length < 0
  · go_enter Tryz.func40, Tryz.ntmps40
    go_wp2
    go_ret
    exact ⟨_, rfl, ext_refl _, -1, rfl, .inl (by omega)⟩
  · go_enter Tryz.func40, Tryz.ntmps40
    go_wp2
    have H0 : Hid (∀ x ∈ f.take 0, x.pages.length ≤ 1048576) := Lib.hid (fun x hx => by simp at hx)
    go_loopw [1, 5] (fun n y wr => ∃ (k : Nat) (m : Int), k ≤ f.length ∧ y = .int .i64 k ∧ n = .int .i64 m ∧ 0 ≤ m ∧ m ≤ b ∧ Ext w wr ∧ Hid (∀ x ∈ f.take k, x.pages.length ≤ 1048576)) (fun _ y _ => f.length - (intOf y).toNat)
    case atStart => exact ⟨0, b - f.length, by omega, rfl, rfl, by omega, by omega, ext_refl _, H0⟩
    case round =>
      clear H0
      obtain ⟨k, m, hk, rfl, rfl, hm0, hm1, hX, HK⟩ := hrel
      by_cases hlt : k < f.length
      · obtain ⟨b2, o, pv, rfl, hb2, hpp, e0, e1⟩ := h.at2 hlt
        have hb' : b2 < w.heap.size := hb2
        obtain ⟨hc, hf⟩ := bcell hX
        obtain ⟨pa, pcap, rfl⟩ := hpp.form
        go_wp2_with fail
        refine (szBlock_c _ f[k] m _ (hpp.ext hX) (HP.out _ (List.getElem_mem _)) ⟨hm0, by omega⟩).mono ?_; rintro e w1 ⟨v1, rfl, hx1, r, rfl, hr⟩
        by_cases hr0 : r < 0
        · go_wp2_with fail
          go_ret
          exact ⟨_, rfl, ext_trans hX hx1, -1, rfl, .inl (by omega)⟩
        · have hrr := hr.resolve_left hr0
          have HK2 : Hid (∀ x ∈ f.take (k + 1), x.pages.length ≤ 1048576) := Lib.hid (fun x hx => by
            rw [← take_snoc f k hlt, List.mem_append] at hx
            rcases hx with hx | hx
            · exact HK.out x hx
            · simp at hx; subst hx; exact hrr.2.2)
          obtain ⟨r0, r1, _⟩ := hrr
          clear hr HK e0 e1 hc hf
          go_wp2_with fail
          go_roundw
          case rel => exact ⟨k + 1, r, by omega, by go_num, rfl, r0, by omega, ext_trans hX hx1, HK2⟩
          case measure => simp [intOf]; omega
      · obtain rfl : k = f.length := by omega
        go_wp2_with fail
        go_ret
        exact ⟨_, rfl, hX, m, rfl, .inr ⟨hm0, hm1, by omega, by have := HK.out; rwa [List.take_length] at this⟩⟩
theorem szStore_c (f d : Value) (s : Store) (b : Int) (w : World) (h : StoreV w f d s) (hF : Fin63 s) (hb : 0 ≤ b ∧ b ≤ 1048576) :
    Calls Tryz.prog 16 #[.agg #[f, d], .int .i64 b] w (RetP w (SzΦ b (Small s))) := by
  have hc1 := fun (w' : World) (hx : Ext w w') => szBlockS_c f s.flash b w' (h.1.ext hx) hF.1 hF.2.1 hb
  have hc2 := fun (w' : World) (hx : Ext w w') (m : Int) (hm : 0 ≤ m ∧ m ≤ 1048576) => szIntS_c d s.disk m w' (h.2.ext hx) hF.2.2 hm
  obtain ⟨a, cap, rfl⟩ := h.1.form
  obtain ⟨a2, cap2, rfl⟩ := h.2.form
  go_enter Tryz.func16, Tryz.ntmps16
  go_wp2_with fail
  refine (hc1 _ (ext_alloc (ext_refl _) _)).mono ?_; rintro e w1 ⟨v1, rfl, hx1, r, rfl, hr⟩
  have G1 := keep_ext hx1 (hg_new (b := w.heap.size) rfl)
  obtain ⟨g1, gf1⟩ := cellsK G1
  have l1 := heap_lt G1
  have X1 := ext_trans (ext_alloc (ext_refl w) _) hx1
  clear hc1
  by_cases hr0 : r < 0
  · go_wp2_with fail
    go_ret
    exact ⟨_, rfl, X1, -1, rfl, .inl (by omega)⟩
  · obtain ⟨r0, r1, hP⟩ := hr.resolve_left hr0
    have HP := Lib.hid hP
    clear hr hP
    go_wp2_with fail
    refine (hc2 _ X1 r ⟨r0, by omega⟩).mono ?_; rintro e w2 ⟨v2, rfl, hx2, m, rfl, hm⟩
    go_wp2_with fail
    all_goals
      try simp only [beq_iff_eq, Bool.not_eq_true, beq_eq_false_iff_ne, ne_eq, bne_iff_ne, bne_eq_false_iff_eq, decide_eq_true_eq, decide_eq_false_iff_not] at *
      go_ret
      first
      | exact ⟨_, rfl, ext_trans X1 hx2, -1, rfl, .inl (by omega)⟩
      | (obtain ⟨m0, m1, m2⟩ := hm.resolve_left (by omega); exact ⟨_, rfl, ext_trans X1 hx2, m, rfl, .inr ⟨m0, by omega, HP.out.1, HP.out.2, m2⟩⟩)
theorem szPair_c (f d g e : Value) (p : Pair) (b : Int) (w : World) (hA : StoreV w f d p.A) (hFA : Fin63 p.A) (hB : StoreV w g e p.B) (hFB : Fin63 p.B) (hb : 0 ≤ b ∧ b ≤ 1048576) :
    Calls Tryz.prog 7 #[.agg #[f, d, g, e, .int .i64 p.lost], .int .i64 b] w (RetP w (SzΦ b (Small p.A ∧ Small p.B))) := by
  have hc1 := fun (w' : World) (hx : Ext w w') => szStore_c f d p.A b w' (hA.ext hx) hFA hb
  have hc2 := fun (w' : World) (hx : Ext w w') (m : Int) (hm : 0 ≤ m ∧ m ≤ 1048576) => szStore_c g e p.B m w' (hB.ext hx) hFB hm
  obtain ⟨a1, n1, rfl⟩ := hA.1.form
  obtain ⟨a2, n2, rfl⟩ := hA.2.form
  obtain ⟨a3, n3, rfl⟩ := hB.1.form
  obtain ⟨a4, n4, rfl⟩ := hB.2.form
  go_enter Tryz.func7, Tryz.ntmps7
  go_wp2_with fail
  refine (hc1 _ (ext_alloc (ext_refl _) _)).mono ?_; rintro e w1 ⟨v1, rfl, hx1, r, rfl, hr⟩
  have G1 := keep_ext hx1 (hg_new (b := w.heap.size) rfl)
  obtain ⟨g1, gf1⟩ := cellsK G1
  have l1 := heap_lt G1
  have X1 := ext_trans (ext_alloc (ext_refl w) _) hx1
  clear hc1
  by_cases hr0 : r < 0
  · go_wp2_with fail
    go_ret
    exact ⟨_, rfl, X1, -1, rfl, .inl (by omega)⟩
  · obtain ⟨r0, r1, hP⟩ := hr.resolve_left hr0
    have HP := Lib.hid hP
    clear hr hP
    go_wp2_with fail
    refine (hc2 _ X1 r ⟨r0, by omega⟩).mono ?_; rintro e w2 ⟨v2, rfl, hx2, m, rfl, hm⟩
    go_wp2_with fail
    all_goals
      try simp only [beq_iff_eq, Bool.not_eq_true, beq_eq_false_iff_ne, ne_eq, bne_iff_ne, bne_eq_false_iff_eq, decide_eq_true_eq, decide_eq_false_iff_not] at *
      go_ret
      first
      | exact ⟨_, rfl, ext_trans X1 hx2, -1, rfl, .inl (by omega)⟩
      | (obtain ⟨m0, m1, m2⟩ := hm.resolve_left (by omega); exact ⟨_, rfl, ext_trans X1 hx2, m, rfl, .inr ⟨m0, by omega, HP.out, m2⟩⟩)
end Go.Bu

set_option linter.unusedVariables false
set_option linter.unusedSimpArgs false
namespace Go.Bu
open Go Go.RowKit Go.Plan Go.Proofs

def mkPage (y : Int) : Page := ⟨y, ⟨y + 1, y + 1 + 1, y + 1 + 1 + 1, y + 1 + 1 + 1 + 1⟩⟩

set_option maxHeartbeats 1000000 in
theorem markPageS_c (v : Value) (ps : List Page) (b : Nat) (x : Int) (w : World) (h : OwnPages w v ps b) (hn : ps.length ≤ 1048576) (hx0 : 0 ≤ x) (hx1 : x ≤ 1152921504606846976) :
    Calls Tryz.prog 81 #[v, .int .i64 x] w (fun e w' => e = .returned (.int .i64 (x + 5 * ps.length)) ∧ Chg [b] w w' ∧ ∃ qs, OwnPages w' v qs b ∧ qs.length = ps.length ∧ ∀ i : Nat, i < ps.length → qs[i]? = some (mkPage (x + 5 * i))) := by
  obtain ⟨T, o, cap, rfl, hA⟩ := h
  go_enter Tryz.func81, Tryz.ntmps81
  go_wp2
  go_loopw [1, 5] (fun y i wr => ∃ (k : Nat) (qs : List Page), k ≤ ps.length ∧ i = .int .i64 k ∧ y = .int .i64 (x + 5 * k) ∧ Chg [b] w wr ∧ OwnAt 5 pageC T wr b o qs ∧ qs.length = ps.length ∧ ∀ i : Nat, i < k → qs[i]? = some (mkPage (x + 5 * i))) (fun _ i _ => ps.length - (intOf i).toNat)
  case atStart => exact ⟨0, ps, Nat.zero_le _, rfl, by simp, Chg.refl _ _, hA, rfl, fun i hi => absurd hi (Nat.not_lt_zero _)⟩
  case round =>
    obtain ⟨k, qs, hk, rfl, rfl, hC, hO, hl, hq⟩ := hrel
    have HQ := Lib.hid hq; clear hq
    by_cases hlt : k < ps.length
    · obtain ⟨e0, e1, e2, e3, e4⟩ := hO.five (k := k) (by omega)
      have ef := hO.frozen
      have hS := OwnAt.set (n := 5) (enc := pageC) (fun _ => rfl) (by omega) hO (k := k) (by omega) (mkPage (x + 5 * k))
      have HS := Lib.hid hS; clear hS
      go_wp2
      refine ⟨⟨k + 1, qs.set k (mkPage (x + 5 * k)), by omega, by go_num, congrArg (Value.int .i64) (by omega), ?_, HS.out, by rw [List.length_set]; exact hl, fun i hi => ?_⟩, by simp [intOf]; omega⟩
      · exact ((((hC.set (.inl (by simp)) _).set (.inl (by simp)) _).set (.inl (by simp)) _).set (.inl (by simp)) _).set (.inl (by simp)) _
      · by_cases hik : i = k
        · subst hik; rw [List.getElem?_set_self (by omega)]
        · rw [List.getElem?_set_ne (Ne.symm hik)]; exact HQ.out i (by omega)
    · obtain rfl : k = ps.length := by omega
      go_wp2
      go_ret
      exact ⟨rfl, hC, qs, ⟨T, o, cap, by rw [hl], hO⟩, hl, HQ.out⟩

set_option maxHeartbeats 1000000 in
theorem heldPageS_c (v : Value) (ps : List Page) (b : Nat) (x : Int) (w : World) (h : OwnPages w v ps b) (hn : ps.length ≤ 1048576) (hx0 : 0 ≤ x) (hx1 : x ≤ 1000000000) (hq : ∀ i : Nat, i < ps.length → ps[i]? = some (mkPage (x + 5 * i))) :
    Calls Tryz.prog 82 #[v, .int .i64 x] w (Ret w (.int .i64 (x + 5 * ps.length))) := by
  obtain ⟨T, o, cap, rfl, hA⟩ := h
  have HQ := Lib.hid hq; clear hq
  go_enter Tryz.func82, Tryz.ntmps82
  go_wp2
  go_loop [1, 5] (fun y i => ∃ (k : Nat), k ≤ ps.length ∧ i = .int .i64 k ∧ y = .int .i64 (x + 5 * k)) (fun _ i => ps.length - (intOf i).toNat)
  case atStart => exact ⟨0, Nat.zero_le _, rfl, by simp⟩
  case round =>
    obtain ⟨k, hk, rfl, rfl⟩ := hrel
    by_cases hlt : k < ps.length
    · obtain ⟨e0, e1, e2, e3, e4⟩ := hA.five (k := k) hlt
      have hp : ps[k] = mkPage (x + 5 * k) := by have := HQ.out k hlt; rw [List.getElem?_eq_getElem hlt] at this; exact Option.some.inj this
      rw [hp] at e0 e1 e2 e3 e4
      simp only [mkPage] at e0 e1 e2 e3 e4
      clear hp
      go_wp2
      refine ⟨⟨k + 1, by omega, by go_num, congrArg (Value.int .i64) (by omega)⟩, by simp [intOf]; omega⟩
    · obtain rfl : k = ps.length := by omega
      go_wp2
      go_ret
      exact ⟨rfl, ext_refl _⟩

def mkPages (y : Int) : List Page := [mkPage y, mkPage (y + 5), mkPage (y + 10), mkPage (y + 15)]
def mkBlock (y : Int) : Block := ⟨mkPages y, y + 20⟩

theorem mkPages_of {qs : List Page} {y : Int} (hl : qs.length = 4) (hq : ∀ i : Nat, i < 4 → qs[i]? = some (mkPage (y + 5 * i))) : qs = mkPages y := by
  match qs, hl with
  | [a, b, c, d], _ =>
    have h0 := hq 0 (by omega); have h1 := hq 1 (by omega); have h2 := hq 2 (by omega); have h3 := hq 3 (by omega)
    simp at h0 h1 h2 h3
    subst h0 h1 h2 h3
    rfl
theorem mkPages_get (y : Int) (i : Nat) (h : i < 4) : (mkPages y)[i]? = some (mkPage (y + 5 * i)) := by
  match i, h with
  | 0, _ => simp [mkPages]
  | 1, _ => rfl
  | 2, _ => rfl
  | 3, _ => rfl

/-- the pages' rows, each its block -/
def PagesAt (w : World) (rows : List (Value × Int)) (gs : List Block) (bs : List Nat) : Prop := ∀ (i : Nat) x r b, gs[i]? = some x → rows[i]? = some r → bs[i]? = some b → r.2 = x.worn ∧ OwnPages w r.1 x.pages b

set_option maxHeartbeats 1000000 in
theorem markBlockS_c (v : Value) (f : List Block) (B : Nat) (bs : List Nat) (x : Int) (w : World) (h : OwnFlash w v f B bs) (hnd : (B :: bs).Nodup) (hn : f.length ≤ 1000) (h4 : ∀ b ∈ f, b.pages.length = 4) (hx0 : 0 ≤ x) (hx1 : x ≤ 1000000) :
    Calls Tryz.prog 51 #[v, .int .i64 x] w (fun e w' => e = .returned (.int .i64 (x + 21 * f.length)) ∧ Chg (B :: bs) w w' ∧ ∃ gs, OwnFlash w' v gs B bs ∧ gs.length = f.length ∧ ∀ i : Nat, i < f.length → gs[i]? = some (mkBlock (x + 21 * i))) := by
  obtain ⟨rows, ⟨T, o, cap, rfl, hA⟩, hr, hb, hP⟩ := h
  rw [hr]
  have hBn : B ∉ bs := (List.nodup_cons.1 hnd).1
  have hbn : bs.Nodup := (List.nodup_cons.1 hnd).2
  have H4 := Lib.hid h4; clear h4
  have HP : Hid (PagesAt w rows f bs) := Lib.hid hP
  clear hP
  go_enter Tryz.func51, Tryz.ntmps51
  go_wp2
  go_loopw [1, 5] (fun y i wr => ∃ (k : Nat) (rs : List (Value × Int)) (gs : List Block), k ≤ f.length ∧ i = .int .i64 k ∧ y = .int .i64 (x + 21 * k) ∧ Chg (B :: bs) w wr ∧ OwnAt 2 rowC T wr B o rs ∧ rs.length = f.length ∧ gs.length = f.length ∧ PagesAt wr rs gs bs ∧ (∀ b ∈ gs, b.pages.length = 4) ∧ ∀ i : Nat, i < k → gs[i]? = some (mkBlock (x + 21 * i))) (fun _ i _ => f.length - (intOf i).toNat)
  case atStart => exact ⟨0, rows, f, Nat.zero_le _, rfl, by simp, Chg.refl _ _, hA, hr, rfl, HP.out, H4.out, fun i hi => absurd hi (Nat.not_lt_zero _)⟩
  case round =>
    obtain ⟨k, rs, gs, hk, rfl, rfl, hC, hO, hl, hl2, hP, hg4, hq⟩ := hrel
    have HQ := Lib.hid hq; clear hq
    have HG := Lib.hid hg4; clear hg4
    by_cases hlt : k < f.length
    · obtain ⟨e0, e1⟩ := hO.two (k := k) (by omega)
      obtain ⟨hw, hpg⟩ := hP k gs[k] rs[k] bs[k] (List.getElem?_eq_getElem (by omega)) (List.getElem?_eq_getElem (by omega)) (List.getElem?_eq_getElem (by omega))
      have HPA := Lib.hid hP; clear hP
      have hp4 : gs[k].pages.length = 4 := HG.out _ (List.getElem_mem _)
      go_wp2_with fail
      refine (markPageS_c _ gs[k].pages bs[k] _ _ hpg (by omega) (by omega) (by omega)).mono ?_; rintro e1 w1 ⟨rfl, hc1, qs, hO1, hl1, hq1⟩
      rw [hp4] at hq1 hl1
      rw [hp4]
      obtain rfl := mkPages_of hl1 hq1
      clear hq1 hl1
      have hBk : B ≠ bs[k] := fun e => hBn (by rw [e]; exact List.getElem_mem _)
      have hA1 := hO.chg hc1 (by simpa using hBk)
      obtain ⟨e0, e1⟩ := hA1.two (k := k) (by omega)
      have ef := hA1.frozen
      have hS := OwnAt.set1 (n := 2) (enc := rowC) (fun _ => rfl) hA1 (k := k) (by omega) (j := 1) (by omega) (.int .i64 (x + 21 * k + 20)) (rs[k].1, x + 21 * k + 20) rfl
      have HS := Lib.hid hS; clear hS
      have hC1 : Chg (B :: bs) w w1 := hC.trans (hc1.mono (by simp))
      have hBm : ∀ b ∈ bs, b ≠ B := fun b hb e => hBn (by rw [← e]; exact hb)
      have hPn : ∀ u : Value, PagesAt (w1.setCell ⟨B, o + k * 2 + 1, none⟩ u) (rs.set k (rs[k].1, x + 21 * k + 20)) (gs.set k (mkBlock (x + 21 * k))) bs := by
        intro u i y r b hy hr hbi
        have hbb := hBm b (List.mem_of_getElem? hbi)
        by_cases hik : i = k
        · subst hik
          rw [List.getElem?_set_self (by omega)] at hy hr
          obtain rfl := Option.some.inj hy
          obtain rfl := Option.some.inj hr
          rw [List.getElem?_eq_getElem (by omega)] at hbi
          obtain rfl := Option.some.inj hbi
          exact ⟨rfl, hO1.keep (setCell_other hbb)⟩
        · rw [List.getElem?_set_ne (Ne.symm hik)] at hy hr
          obtain ⟨h1, h2⟩ := HPA.out i y r b hy hr hbi
          refine ⟨h1, (h2.chg hc1 ?_).keep (setCell_other hbb)⟩
          simp only [List.mem_singleton]
          rintro rfl
          have hbl := (List.getElem?_eq_some_iff.1 hbi).1
          exact hik (nodup_inj hbn hbi (List.getElem?_eq_getElem (by omega)))
      have HPN := Lib.hid hPn; clear hPn
      go_wp2_with fail
      refine ⟨⟨k + 1, _, gs.set k (mkBlock (x + 21 * k)), by omega, by go_num, congrArg (Value.int .i64) (by omega), hC1.set (.inl (by simp)) _, HS.out, by rw [List.length_set]; exact hl, by rw [List.length_set]; exact hl2, HPN.out _, fun b hb => ?_, fun i hi => ?_⟩, by simp [intOf]; omega⟩
      · rcases List.mem_or_eq_of_mem_set hb with hb | rfl
        · exact HG.out b hb
        · rfl
      · by_cases hik : i = k
        · subst hik; rw [List.getElem?_set_self (by omega)]
        · rw [List.getElem?_set_ne (Ne.symm hik)]; exact HQ.out i (by omega)
    · obtain rfl : k = f.length := by omega
      go_wp2
      go_ret
      exact ⟨rfl, hC, gs, ⟨rs, ⟨T, o, cap, by rw [hl], hO⟩, by rw [hl, hl2], by rw [hb, hl2], hP⟩, hl2, HQ.out⟩

set_option maxHeartbeats 1000000 in
theorem heldBlockS_c (v : Value) (f : List Block) (B : Nat) (bs : List Nat) (x : Int) (w : World) (h : OwnFlash w v f B bs) (hn : f.length ≤ 1000) (hx0 : 0 ≤ x) (hx1 : x ≤ 1000000) (hq : ∀ i : Nat, i < f.length → f[i]? = some (mkBlock (x + 21 * i))) :
    Calls Tryz.prog 53 #[v, .int .i64 x] w (Ret w (.int .i64 (x + 21 * f.length))) := by
  obtain ⟨rows, ⟨T, o, cap, rfl, hA⟩, hr, hb, hP⟩ := h
  rw [hr]
  have HP : Hid (PagesAt w rows f bs) := Lib.hid hP
  have HQ := Lib.hid hq
  clear hP hq
  go_enter Tryz.func53, Tryz.ntmps53
  go_wp2
  go_loopw [1, 5] (fun y i wr => ∃ (k : Nat), k ≤ f.length ∧ i = .int .i64 k ∧ y = .int .i64 (x + 21 * k) ∧ Ext w wr) (fun _ i _ => f.length - (intOf i).toNat)
  case atStart => exact ⟨0, Nat.zero_le _, rfl, by simp, ext_refl _⟩
  case round =>
    obtain ⟨k, hk, rfl, rfl, hX⟩ := hrel
    by_cases hlt : k < f.length
    · have hA1 := hA.ext hX
      obtain ⟨e0, e1⟩ := hA1.two (k := k) (by omega)
      obtain ⟨hw, hpg⟩ := HP.out k f[k] rows[k] bs[k] (List.getElem?_eq_getElem (by omega)) (List.getElem?_eq_getElem (by omega)) (List.getElem?_eq_getElem (by omega))
      have hfk : f[k] = mkBlock (x + 21 * k) := by have := HQ.out k hlt; rw [List.getElem?_eq_getElem hlt] at this; exact Option.some.inj this
      rw [hfk] at hw hpg
      rw [hw] at e1
      simp only [mkBlock] at e1 hpg
      clear hfk hw
      go_wp2_with fail
      refine (heldPageS_c _ (mkPages (x + 21 * k)) bs[k] _ _ (hpg.ext hX) (by simp [mkPages]) (by omega) (by omega) (fun i hi => mkPages_get _ i (by simpa [mkPages] using hi))).mono ?_; rintro e1 w1 ⟨rfl, hx1⟩
      have hX1 : Ext w w1 := ext_trans hX hx1
      obtain ⟨e0, e1'⟩ := (hA.ext hX1).two (k := k) (by omega)
      replace e1' := cell_ext hx1 e1
      clear e1
      have hlen : (mkPages (x + 21 * k)).length = 4 := rfl
      rw [hlen]
      clear hlen hpg
      go_wp2_with fail
      refine ⟨⟨k + 1, by omega, by go_num, congrArg (Value.int .i64) (by omega), hX1⟩, by simp [intOf]; omega⟩
    · obtain rfl : k = f.length := by omega
      go_wp2
      go_ret
      exact ⟨rfl, hX⟩
end Go.Bu

set_option linter.unusedVariables false
set_option linter.unusedSimpArgs false
namespace Go.Bu
open Go Go.RowKit Go.Plan Go.Proofs

theorem Filled.ownV {α : Type} {n : Nat} {enc : α → List Value} {w : World} {B T size : Nat} {xs : List α} (h : Filled n enc w B T size xs) : OwnV n enc w (.slice (some ⟨B, 0, none⟩) xs.length xs.length) xs B := by
  obtain ⟨c, h1, h2, h3⟩ := h
  exact ⟨T, 0, 0, rfl, c, h1, h3⟩
theorem OwnV.slf {α : Type} {n : Nat} {enc : α → List Value} {w : World} {v : Value} {xs : List α} {B : Nat} (h : OwnV n enc w v xs B) : ∃ o cap, v = .slice (some ⟨B, o, none⟩) xs.length cap := by
  obtain ⟨T, o, cap, hv, _⟩ := h; exact ⟨o, _, hv⟩

theorem toPageS_c (v : Value) (xs : List Page) (w : World) (hp : Pages (Old w) w v xs) (hn : xs.length ≤ 1048576) :
    Calls Tryz.prog 108 #[v] w (fun e w' => ∃ v' B, e = .returned v' ∧ Ext w w' ∧ w.heap.size ≤ B ∧ OwnPages w' v' xs B) := by
  obtain ⟨a, cap, rfl⟩ := hp.form
  have hmk := make_n (P := Tryz.prog) 107 126 (pageC ⟨0, ⟨0, 0, 0, 0⟩⟩).toArray 5 40 Tryz.underlying107 (by kernel_rfl) xs.length (by omega) (by omega)
  go_enter Tryz.func108, Tryz.ntmps108
  go_wp2
  go_loopw [4] (fun i wr => ∃ k : Nat, k ≤ xs.length ∧ i = .int .i64 k ∧ Ext w wr ∧ Filled 5 pageC wr w.heap.size 126 (xs.length * 5) (xs.take k)) (fun i _ => xs.length - (intOf i).toNat)
  case atStart => exact ⟨0, Nat.zero_le _, rfl, ext_alloc (ext_refl _) _, Filled.made _ _ _ _⟩
  case round =>
    obtain ⟨k, hk, rfl, hx, hfl⟩ := hrel
    by_cases hlt : k < xs.length
    · obtain ⟨b, o, rfl, hb, h0, h1, h2, h3, h4⟩ := (hp.ext hx).at5 hlt
      go_wp2_with fail
      refine (toPage_c xs[k] _).mono ?_; rintro e1 w1 ⟨rfl, hx1⟩
      have hfl1 := hfl.ext hx1
      have hl : (xs.take k).length = k := by simp; omega
      have hth := hfl1.there (o := k * 5) (m := 5) (by omega)
      have hF := Filled.snoc (n := 5) (enc := pageC) (fun _ => rfl) xs[k] hfl1 (by rw [hl]; omega)
      rw [hl, take_snoc xs k hlt] at hF
      have hX := ext_setAll (ext_trans hx hx1) (Nat.le_refl _) (k * 5) (pageC xs[k])
      have HF := Lib.hid hF; have HX := Lib.hid hX
      clear hF hX hfl1 hfl h0 h1 h2 h3 h4
      go_wp2_with (refine wpList_store_mid rfl 126 _ _ rfl w.heap.size (k * 5) (pageC xs[k]).toArray rfl rfl hth (by kernel_rfl) (by simp [Value.oneCell']) ?_; change wpList _ _ _ _ _ (setAll w1 w.heap.size (k * 5) (pageC xs[k])); generalize setAll w1 w.heap.size (k * 5) (pageC xs[k]) = w2 at *)
      go_roundw
      case rel => exact ⟨k + 1, by omega, by go_num, HX.out, HF.out⟩
      case measure => simp [intOf]; omega
    · obtain rfl : k = xs.length := by omega
      go_wp2
      refine bodyPost_ret (v := .slice (some ⟨w.heap.size, 0, none⟩) xs.length xs.length) (by simp [results, Tryz.results108, go_sem]) rfl ⟨_, _, rfl, hx, Nat.le_refl _, ?_⟩
      rw [List.take_length] at hfl
      exact hfl.ownV

theorem toIntS_c (v : Value) (xs : List Int) (w : World) (hp : Ints (Old w) w v xs) (hn : xs.length ≤ 1048576) :
    Calls Tryz.prog 46 #[v] w (fun e w' => ∃ v' B, e = .returned v' ∧ Ext w w' ∧ w.heap.size ≤ B ∧ OwnInts w' v' xs B) := by
  obtain ⟨a, cap, rfl⟩ := hp.form
  have hmk := make_n (P := Tryz.prog) 23 3 #[.int .i64 0] 1 8 Tryz.underlying23 (by kernel_rfl) xs.length (by omega) (by omega)
  go_enter Tryz.func46, Tryz.ntmps46
  go_wp2
  go_loopw [4] (fun i wr => ∃ k : Nat, k ≤ xs.length ∧ i = .int .i64 k ∧ Ext w wr ∧ Filled 1 intC wr w.heap.size 3 xs.length (xs.take k)) (fun i _ => xs.length - (intOf i).toNat)
  case atStart => exact ⟨0, Nat.zero_le _, rfl, ext_alloc (ext_refl _) _, Filled.made _ _ _ _⟩
  case round =>
    obtain ⟨k, hk, rfl, hx, hfl⟩ := hrel
    by_cases hlt : k < xs.length
    · obtain ⟨b, o, rfl, hb, h0⟩ := (hp.ext hx).at1 hlt
      have hl : (xs.take k).length = k := by simp; omega
      have hth := hfl.there (o := k) (m := 1) (by omega)
      obtain ⟨hs1, hs2⟩ := hth 0 (by omega)
      obtain ⟨u, hu⟩ := Option.isSome_iff_exists.1 hs1
      simp only [Nat.add_zero] at hu hs2
      have hF := Filled.snoc (n := 1) (enc := fun n : Int => [.int .i64 n]) (fun _ => rfl) xs[k] hfl (by rw [hl]; omega)
      rw [hl, take_snoc xs k hlt] at hF
      have hX := ext_setAll hx (Nat.le_refl _) (k * 1) [.int .i64 xs[k]]
      simp only [Nat.mul_one] at hX hF
      have HF := Lib.hid hF; have HX := Lib.hid hX
      clear hF hX hfl hth hs1
      go_wp2
      go_roundw
      case rel => exact ⟨k + 1, by omega, by go_num, HX.out, by exact HF.out⟩
      case measure => simp [intOf]; omega
    · obtain rfl : k = xs.length := by omega
      go_wp2
      refine bodyPost_ret (v := .slice (some ⟨w.heap.size, 0, none⟩) xs.length xs.length) (by simp [results, Tryz.results46, go_sem]) rfl ⟨_, _, rfl, hx, Nat.le_refl _, ?_⟩
      rw [List.take_length] at hfl
      exact hfl.ownV

theorem toBlock_c (pv : Value) (x : Block) (w : World) (hp : Pages (Old w) w pv x.pages) (hn : x.pages.length ≤ 1048576) :
    Calls Tryz.prog 73 #[.agg #[pv, .int .i64 x.worn]] w (fun e w' => ∃ pv' b, e = .returned (.agg #[pv', .int .i64 x.worn]) ∧ Ext w w' ∧ w.heap.size ≤ b ∧ OwnPages w' pv' x.pages b) := by
  have hc1 := fun (w' : World) (hx : Ext w w') => toPageS_c pv x.pages w' (hp.ext hx) hn
  obtain ⟨a, cap, rfl⟩ := hp.form
  go_enter Tryz.func73, Tryz.ntmps73
  go_wp2_with fail
  refine (hc1 _ (ext_alloc (ext_alloc (ext_alloc (ext_refl _) _) _) _)).mono ?_; rintro e1 w1 ⟨v1, B, rfl, hx, hB, hO⟩
  obtain ⟨o, c, rfl⟩ := hO.slf
  simp at hB
  obtain ⟨hc, hf, hz0, hz1, hz2, hX⟩ := after3 hx
  have HO := Lib.hid hO
  clear hO hc1
  go_wp2
  refine bodyPost_ret (v := .agg #[.slice (some ⟨B, o, none⟩) x.pages.length c, .int .i64 x.worn]) (by simp [results, Tryz.results73, go_sem, hc, hf, hz0, hz1, hz2]) rfl ⟨_, B, rfl, ?_, by omega, ?_⟩
  · ((repeat (first | with_reducible (refine ext_set2 ?_ ?_); focus (first | exact Nat.le_refl _ | (dsimp only; omega) | (simp; omega)) | with_reducible refine ext_alloc2 ?_)); with_reducible exact hX)
  · exact HO.out.keep (by rw [setCell_other (by omega), setCell_other (by omega), setCell_other (by omega), setCell_other (by omega)])

set_option maxRecDepth 20000 in
set_option maxHeartbeats 1000000 in
theorem toBlockS_c (v : Value) (f : List Block) (w : World) (h : Flash (Old w) w v f) (hn : f.length ≤ 1048576) (hp : ∀ b ∈ f, b.pages.length ≤ 1048576) :
    Calls Tryz.prog 45 #[v] w (fun e w' => ∃ v' B bs, e = .returned v' ∧ Ext w w' ∧ OwnFlash w' v' f B bs ∧ (B :: bs).Nodup ∧ ∀ b ∈ B :: bs, w.heap.size ≤ b) := by
  obtain ⟨a, cap, rfl⟩ := h.form
  have HP := Lib.hid hp
  clear hp
  have hmk := make_n (P := Tryz.prog) 29 109 (rowC (.slice none 0 0, 0)).toArray 2 32 Tryz.underlying29 (by kernel_rfl) f.length (by omega) (by omega)
  go_enter Tryz.func45, Tryz.ntmps45
  go_wp2
  go_loopw [4] (fun i wr => ∃ (k : Nat) (rows : List (Value × Int)) (bs : List Nat), k ≤ f.length ∧ i = .int .i64 k ∧ Ext w wr ∧ Filled 2 rowC wr w.heap.size 109 (f.length * 2) rows ∧ rows.length = k ∧ bs.length = k ∧ bs.Nodup ∧ Hid (∀ b ∈ bs, w.heap.size < b) ∧ Hid (PagesAt wr rows (f.take k) bs)) (fun i _ => f.length - (intOf i).toNat)
  case atStart => exact ⟨0, [], [], Nat.zero_le _, rfl, ext_alloc (ext_refl _) _, Filled.made _ _ _ _, rfl, rfl, List.nodup_nil, Lib.hid (fun b hb => by cases hb), Lib.hid (fun i x r b h => by simp at h)⟩
  case round =>
    obtain ⟨k, rows, bs, hk, rfl, hX, hfl, hrl, hbl, hnd, HB, HPA⟩ := hrel
    by_cases hlt : k < f.length
    · obtain ⟨b, o, pv, rfl, hb, hpp, h0, h1⟩ := (h.ext hX).at2 hlt
      obtain ⟨pa, pcap, rfl⟩ := hpp.form
      have hpl := HP.out f[k] (List.getElem_mem _)
      go_wp2_with fail
      refine (toBlock_c _ f[k] _ hpp hpl).mono ?_; rintro e1 w1 ⟨pv', b1, rfl, hx1, hb1, hO1⟩
      obtain ⟨o1, c1, rfl⟩ := hO1.slf
      have hfl1 := hfl.ext hx1
      have hth := hfl1.there (o := k * 2) (m := 2) (by omega)
      have hF := Filled.snoc (n := 2) (enc := rowC) (fun _ => rfl) (.slice (some ⟨b1, o1, none⟩) f[k].pages.length c1, f[k].worn) hfl1 (by rw [hrl]; omega)
      rw [hrl] at hF
      have hlB : w.heap.size < wr.heap.size := by obtain ⟨c, hc, _⟩ := hfl; exact heap_lt hc
      have hXn := ext_setAll (ext_trans hX hx1) (Nat.le_refl _) (k * 2) (rowC (.slice (some ⟨b1, o1, none⟩) f[k].pages.length c1, f[k].worn))
      have HF := Lib.hid hF; have HXN := Lib.hid hXn
      have HPN : Hid (PagesAt (setAll w1 w.heap.size (k * 2) (rowC (.slice (some ⟨b1, o1, none⟩) f[k].pages.length c1, f[k].worn))) (rows ++ [(.slice (some ⟨b1, o1, none⟩) f[k].pages.length c1, f[k].worn)]) (f.take (k + 1)) (bs ++ [b1])) := Lib.hid (by
        intro i x r b2 hx hr hbi
        rw [← take_snoc f k hlt] at hx
        by_cases hik : i < k
        · rw [List.getElem?_append_left (by simp; omega)] at hx
          rw [List.getElem?_append_left (by omega)] at hr hbi
          obtain ⟨q1, q2⟩ := HPA.out i x r b2 hx hr hbi
          have := HB.out b2 (List.mem_of_getElem? hbi)
          exact ⟨q1, (q2.ext hx1).keep (setAll_other _ (by omega) _ _ _)⟩
        · have hi : i = k := by
            have := (List.getElem?_eq_some_iff.1 hbi).1
            simp at this; omega
          subst hi
          rw [List.getElem?_append_right (by simp; omega)] at hx
          rw [List.getElem?_append_right (by omega)] at hr hbi
          simp [hbl] at hbi
          simp [hrl] at hr
          simp [show min i f.length = i by omega] at hx
          subst hbi; subst hr; subst hx
          exact ⟨rfl, hO1.keep (setAll_other _ (by omega) _ _ _)⟩)
      have HB2 : Hid (∀ b ∈ bs ++ [b1], w.heap.size < b) := Lib.hid (fun b hb => by
        rcases List.mem_append.1 hb with hb | hb
        · exact HB.out b hb
        · rw [List.mem_singleton] at hb; omega)
      have hnd2 : (bs ++ [b1]).Nodup := by
        rw [List.nodup_append]
        refine ⟨hnd, by simp, fun a ha b hb => ?_⟩
        rw [List.mem_singleton] at hb
        subst hb
        obtain ⟨i, hi, rfl⟩ := List.mem_iff_getElem.1 ha
        have := (HPA.out i f[i] rows[i] bs[i] (by rw [List.getElem?_take_of_lt (by omega)]; exact List.getElem?_eq_getElem (by omega)) (List.getElem?_eq_getElem (by omega)) (List.getElem?_eq_getElem hi)).2.lt
        omega
      clear hF hXn hfl1 hfl h0 h1 HPA HB hO1 hpp hnd
      go_wp2_with (refine wpList_store_mid rfl 109 _ _ rfl w.heap.size (k * 2) (rowC (.slice (some ⟨b1, o1, none⟩) f[k].pages.length c1, f[k].worn)).toArray rfl rfl hth (by kernel_rfl) (by simp [Value.oneCell']) ?_; change wpList _ _ _ _ _ (setAll w1 w.heap.size (k * 2) (rowC (.slice (some ⟨b1, o1, none⟩) f[k].pages.length c1, f[k].worn))); generalize setAll w1 w.heap.size (k * 2) (rowC (.slice (some ⟨b1, o1, none⟩) f[k].pages.length c1, f[k].worn)) = w2 at *)
      go_roundw
      case rel => exact ⟨k + 1, _, _, by omega, by go_num, HXN.out, HF.out, by simp [hrl], by simp [hbl], hnd2, HB2, HPN⟩
      case measure => simp [intOf]; omega
    · obtain rfl : k = f.length := by omega
      go_wp2
      obtain ⟨c, g1, g2, g3⟩ := hfl
      refine bodyPost_ret (v := .slice (some ⟨w.heap.size, 0, none⟩) f.length f.length) (by simp [results, Tryz.results45, go_sem]) rfl ⟨_, w.heap.size, bs, rfl, hX, ⟨rows, ⟨109, 0, 0, by rw [hrl, Nat.add_zero], c, g1, g3⟩, hrl, hbl, ?_⟩, List.nodup_cons.2 ⟨fun hm => by have := HB.out _ hm; omega, hnd⟩, fun b hb => ?_⟩
      · have := HPA.out; rw [List.take_length] at this; exact this
      · rcases List.mem_cons.1 hb with rfl | hb
        · exact Nat.le_refl _
        · exact Nat.le_of_lt (HB.out b hb)

def StoreTo (w : World) (s : Store) (e : Ending) (w' : World) : Prop := ∃ f' d' L, e = .returned (.agg #[f', d']) ∧ Ext w w' ∧ OwnStore w' f' d' s L ∧ L.Nodup ∧ ∀ b ∈ L, w.heap.size ≤ b
theorem OwnFlash.slf {w : World} {v : Value} {f : List Block} {B : Nat} {bs : List Nat} (h : OwnFlash w v f B bs) : ∃ o cap, v = .slice (some ⟨B, o, none⟩) f.length cap := by
  obtain ⟨rows, hO, h2, _⟩ := h
  obtain ⟨o, cap, hv⟩ := hO.slf
  exact ⟨o, cap, by rw [hv, h2]⟩

set_option maxRecDepth 20000 in
set_option maxHeartbeats 1000000 in
theorem toStore_c (f d : Value) (s : Store) (w : World) (h : StoreV w f d s) (hs : Small s) :
    Calls Tryz.prog 18 #[.agg #[f, d]] w (StoreTo w s) := by
  have hc1 := fun (w' : World) (hx : Ext w w') => toBlockS_c f s.flash w' (h.1.ext hx) hs.1 hs.2.1
  have hc2 := fun (w' : World) (hx : Ext w w') => toIntS_c d s.disk w' (h.2.ext hx) hs.2.2
  obtain ⟨a, cap, rfl⟩ := h.1.form
  obtain ⟨a2, cap2, rfl⟩ := h.2.form
  go_enter Tryz.func18, Tryz.ntmps18
  go_wp2_with fail
  refine (hc1 _ (ext_alloc (ext_alloc (ext_alloc (ext_refl _) _) _) _)).mono ?_; rintro e1 w1 ⟨v1, B, bs, rfl, hx1, hO1, hn1, hb1⟩
  obtain ⟨o1, c1, rfl⟩ := hO1.slf
  have G0 := keep_ext hx1 (hg_alloc (hg_alloc (hg_new (b := w.heap.size) rfl)))
  have G1 := keep_ext hx1 (hg_alloc (hg_new (b := w.heap.size + 1) (by simp)))
  have G2 := keep_ext hx1 (hg_new (b := w.heap.size + 1 + 1) (by simp))
  have X1 : Ext w w1 := ext_trans (ext_alloc (ext_alloc (ext_alloc (ext_refl w) _) _) _) hx1
  simp only [World.alloc, Array.size_push] at hb1
  have hs1 := hx1.size
  simp at hs1
  have HO1 := Lib.hid hO1
  have HN1 := Lib.hid hn1
  have HB1 : Hid (∀ b ∈ B :: bs, w.heap.size + 3 ≤ b) := Lib.hid (fun b hb => by have := hb1 b hb; omega)
  have HL1 := Lib.hid hO1.lt
  clear hc1 hx1 hO1 hn1 hb1
  obtain ⟨g0, gf0⟩ := cellsK G0
  obtain ⟨g2, gf2⟩ := cellsK G2
  go_wp2_with fail
  refine (hc2 _ (ext_set X1 (by dsimp only; omega) _)).mono ?_; rintro e2 w2 ⟨v2, D, rfl, hx2, hD, hO2⟩
  obtain ⟨o2, c2, rfl⟩ := hO2.slf
  have X2 : Ext w w2 := ext_trans (ext_set X1 (by dsimp only; omega) _) hx2
  have HO2 := Lib.hid hO2
  have hO1' : OwnFlash w2 (.slice (some ⟨B, o1, none⟩) s.flash.length c1) s.flash B bs := (HO1.out.keep (fun b hb => setCell_other (by have := HB1.out b hb; omega))).ext hx2
  have HO1' := Lib.hid hO1'
  have hD' : w1.heap.size ≤ D := by rw [setCell_size] at hD; exact hD
  replace G0 := keep_ext hx2 (hg_set (by dsimp only; omega) G0)
  replace G1 := keep_ext hx2 (hg_set (by dsimp only; omega) G1)
  replace G2 := keep_ext hx2 (hg_here G2)
  clear hc2 hO2 hO1' HO1 hD X1 hx2 g0 gf0 g2 gf2
  obtain ⟨g0, gf0⟩ := cellsK G0
  obtain ⟨g1, gf1⟩ := cellsK G1
  obtain ⟨g2, gf2⟩ := cellsK G2
  go_wp2_with fail
  refine bodyPost_ret (v := .agg #[.slice (some ⟨B, o1, none⟩) s.flash.length c1, .slice (some ⟨D, o2, none⟩) s.disk.length c2]) (by simp [results, Tryz.results18, go_sem, g1, gf1, g2, gf2]) rfl ⟨_, _, B :: bs ++ [D], rfl, ?_, ⟨B, bs, D, rfl, ?_, ?_⟩, ?_, ?_⟩
  · ((repeat (first | with_reducible (refine ext_set2 ?_ ?_); focus (first | exact Nat.le_refl _ | (dsimp only; omega) | (simp; omega)) | with_reducible refine ext_alloc2 ?_)); with_reducible exact X2)
  · refine HO1'.out.keep fun b hb => ?_
    have := HB1.out b hb
    rw [setCell_other (by omega), setCell_other (by omega), setCell_other (by omega)]
  · exact HO2.out.keep (by rw [setCell_other (by omega), setCell_other (by omega), setCell_other (by omega)])
  · rw [List.nodup_append]
    refine ⟨HN1.out, by simp, fun x hx y hy e => ?_⟩
    rw [List.mem_singleton] at hy
    have := HL1.out x hx; omega
  · intro b hb
    rcases List.mem_append.1 hb with hb | hb
    · have := HB1.out b hb; omega
    · rw [List.mem_singleton] at hb; omega
def PairTo (w : World) (p : Pair) (e : Ending) (w' : World) : Prop := ∃ f d g h L K, e = .returned (.agg #[f, d, g, h, .int .i64 p.lost]) ∧ Ext w w' ∧ OwnStore w' f d p.A L ∧ OwnStore w' g h p.B K ∧ (L ++ K).Nodup ∧ ∀ b ∈ L ++ K, w.heap.size ≤ b

set_option maxRecDepth 20000 in
set_option maxHeartbeats 1000000 in
theorem toPair_c (v : Value) (p : Pair) (w : World) (h : PairIn w v p) (hsA : Small p.A) (hsB : Small p.B) :
    Calls Tryz.prog 9 #[v] w (PairTo w p) := by
  obtain ⟨f, d, g, e, rfl, ⟨hA, _⟩, hB, _⟩ := h
  have hc1 := fun (w' : World) (hx : Ext w w') => toStore_c f d p.A w' (hA.ext hx) hsA
  have hc2 := fun (w' : World) (hx : Ext w w') => toStore_c g e p.B w' (hB.ext hx) hsB
  obtain ⟨a1, n1, rfl⟩ := hA.1.form
  obtain ⟨a2, n2, rfl⟩ := hA.2.form
  obtain ⟨a3, n3, rfl⟩ := hB.1.form
  obtain ⟨a4, n4, rfl⟩ := hB.2.form
  go_enter Tryz.func9, Tryz.ntmps9
  go_wp2_with fail
  refine (hc1 _ (ext_alloc (ext_alloc (ext_alloc (ext_refl _) _) _) _)).mono ?_; rintro e1 w1 ⟨v1, v2, L, rfl, hx1, hO1, hn1, hb1⟩
  obtain ⟨b1, m1, c1, b2, m2, c2, rfl, rfl⟩ := hO1.forms
  have G0 := keep_ext hx1 (hg_alloc (hg_alloc (hg_new (b := w.heap.size) rfl)))
  have G1 := keep_ext hx1 (hg_alloc (hg_new (b := w.heap.size + 1) (by simp)))
  have G2 := keep_ext hx1 (hg_new (b := w.heap.size + 1 + 1) (by simp))
  have X1 : Ext w w1 := ext_trans (ext_alloc (ext_alloc (ext_alloc (ext_refl w) _) _) _) hx1
  simp only [World.alloc, Array.size_push] at hb1
  have hs1 := hx1.size
  simp at hs1
  have HO1 := Lib.hid hO1
  have HN1 := Lib.hid hn1
  have HB1 : Hid (∀ b ∈ L, w.heap.size + 3 ≤ b) := Lib.hid (fun b hb => by have := hb1 b hb; omega)
  have HL1 := Lib.hid hO1.lt
  clear hc1 hx1 hO1 hn1 hb1
  obtain ⟨g0, gf0⟩ := cellsK G0
  obtain ⟨g2, gf2⟩ := cellsK G2
  go_wp2_with fail
  refine (hc2 _ (by ((repeat (first | with_reducible (refine ext_set2 ?_ ?_); focus (first | exact Nat.le_refl _ | (dsimp only; omega) | (simp; omega)) | with_reducible refine ext_alloc2 ?_)); with_reducible exact X1))).mono ?_; rintro e2 w2 ⟨v3, v4, K, rfl, hx2, hO2, hn2, hb2⟩
  obtain ⟨b3, m3, c3, b4, m4, c4, rfl, rfl⟩ := hO2.forms
  have X2 : Ext w w2 := ext_trans (by ((repeat (first | with_reducible (refine ext_set2 ?_ ?_); focus (first | exact Nat.le_refl _ | (dsimp only; omega) | (simp; omega)) | with_reducible refine ext_alloc2 ?_)); with_reducible exact X1)) hx2
  have HO2 := Lib.hid hO2
  have HN2 := Lib.hid hn2
  have hO1' : OwnStore w2 (.slice b1 m1 c1) (.slice b2 m2 c2) p.A L := (HO1.out.keep (fun b hb => by have := HB1.out b hb; rw [setCell_other (by omega), setCell_other (by omega)])).ext hx2
  have HO1' := Lib.hid hO1'
  have HB2 : Hid (∀ b ∈ K, w1.heap.size ≤ b) := Lib.hid (fun b hb => by have := hb2 b hb; rw [setCell_size, setCell_size] at this; exact this)
  replace G0 := keep_ext hx2 (hg_set (by dsimp only; omega) (hg_set (by dsimp only; omega) G0))
  replace G1 := keep_ext hx2 (hg_set (by dsimp only; omega) (hg_set (by dsimp only; omega) G1))
  replace G2 := keep_ext hx2 (hg_here (hg_here G2))
  clear hc2 hO2 hO1' HO1 hb2 X1 hx2 hn2 g0 gf0 g2 gf2
  obtain ⟨g0, gf0⟩ := cellsK G0
  obtain ⟨g1, gf1⟩ := cellsK G1
  obtain ⟨g2, gf2⟩ := cellsK G2
  go_wp2_with fail
  refine bodyPost_ret (v := .agg #[.slice b1 m1 c1, .slice b2 m2 c2, .slice b3 m3 c3, .slice b4 m4 c4, .int .i64 p.lost]) (by simp [results, Tryz.results9, go_sem, g1, gf1, g2, gf2]) rfl ⟨_, _, _, _, L, K, rfl, ?_, ?_, ?_, ?_, ?_⟩
  · ((repeat (first | with_reducible (refine ext_set2 ?_ ?_); focus (first | exact Nat.le_refl _ | (dsimp only; omega) | (simp; omega)) | with_reducible refine ext_alloc2 ?_)); with_reducible exact X2)
  · refine HO1'.out.keep fun b hb => ?_
    have := HB1.out b hb
    iterate 8 rw [setCell_other (by omega)]
  · refine HO2.out.keep fun b hb => ?_
    have := HB2.out b hb
    iterate 8 rw [setCell_other (by omega)]
  · rw [List.nodup_append]
    refine ⟨HN1.out, HN2.out, fun x hx y hy e => ?_⟩
    have := HL1.out x hx; have := HB2.out y hy; omega
  · intro b hb
    rcases List.mem_append.1 hb with hb | hb
    · have := HB1.out b hb; omega
    · have := HB2.out b hb; omega
end Go.Bu

set_option linter.unusedVariables false
set_option linter.unusedSimpArgs false
namespace Go.Bu
open Go Go.RowKit Go.Plan Go.Proofs

/-- one of two, block by block and page by page, is of a size that counters bear -/
def Fits (xs ys : List Block) : Prop := (xs.length ≤ 1048576 ∨ ys.length ≤ 1048576) ∧ ∀ (i : Nat) (h : i < xs.length) (h2 : i < ys.length), xs[i].pages.length ≤ 1048576 ∨ ys[i].pages.length ≤ 1048576
def FitsI (xs ys : List Int) : Prop := xs.length ≤ 1048576 ∨ ys.length ≤ 1048576

theorem eqStore_c (f g d e : Value) (s t : Store) (w : World) (hf : Flash (Old w) w f s.flash) (hg : Flash (Old w) w g t.flash) (hd : Ints (Old w) w d s.disk) (he : Ints (Old w) w e t.disk) (hn : Fits s.flash t.flash) (hm : FitsI s.disk t.disk) :
    Calls Tryz.prog 21 #[.agg #[f, d], .agg #[g, e]] w (Ret w (.bool (storeEq s t))) := by
  have hE : ∀ o1 o2, Ext w ((w.alloc o1).alloc o2) := fun o1 o2 => ext_alloc (ext_alloc (ext_refl _) _) _
  have HE := Lib.hid hE; clear hE
  go_enter Tryz.func21, Tryz.ntmps21
  go_wp2_with fail
  refine (eqBlockS_c _ _ s.flash t.flash _ (hf.ext (HE.out _ _)) (hg.ext (HE.out _ _)) hn.1 hn.2).mono ?_
  rintro e1 w1 ⟨rfl, hx⟩
  have hc := (bcell hx).1
  have hX : Ext w w1 := ext_trans (HE.out _ _) hx
  go_wp2_with (go_at_call 50; refine (eqIntS_c _ _ s.disk t.disk _ (hd.ext hX) (he.ext hX) hm).mono ?_; rintro e2 w2 ⟨rfl, hx2⟩)
  · go_ret
    exact ⟨by simp_all [storeEq, flashEq], hX⟩
  all_goals
    go_ret
    exact ⟨by simp_all [storeEq, flashEq, intsEq], ext_trans hX ‹_›⟩

theorem eqPair_c (f g d e f' g' d' e' : Value) (p q : Pair) (w : World) (hf : Flash (Old w) w f p.A.flash) (hg : Flash (Old w) w g q.A.flash) (hd : Ints (Old w) w d p.A.disk) (he : Ints (Old w) w e q.A.disk) (hn : Fits p.A.flash q.A.flash) (hm : FitsI p.A.disk q.A.disk)
    (hf' : Flash (Old w) w f' p.B.flash) (hg' : Flash (Old w) w g' q.B.flash) (hd' : Ints (Old w) w d' p.B.disk) (he' : Ints (Old w) w e' q.B.disk) (hn' : Fits p.B.flash q.B.flash) (hm' : FitsI p.B.disk q.B.disk) :
    Calls Tryz.prog 11 #[.agg #[f, d, f', d', .int .i64 p.lost], .agg #[g, e, g', e', .int .i64 q.lost]] w (Ret w (.bool (pairEq p q))) := by
  have hE : ∀ o1 o2, Ext w ((w.alloc o1).alloc o2) := fun o1 o2 => ext_alloc (ext_alloc (ext_refl _) _) _
  have HE := Lib.hid hE; clear hE
  go_enter Tryz.func11, Tryz.ntmps11
  go_wp2_with fail
  refine (eqStore_c _ _ _ _ p.A q.A _ (hf.ext (HE.out _ _)) (hg.ext (HE.out _ _)) (hd.ext (HE.out _ _)) (he.ext (HE.out _ _)) hn hm).mono ?_
  rintro e1 w1 ⟨rfl, hx⟩
  have hc := (bcell hx).1
  have hX : Ext w w1 := ext_trans (HE.out _ _) hx
  have hz0 : w.heap.size < w1.heap.size := by have := hx.size; simp at this; omega
  have hz1 : w.heap.size + 1 < w1.heap.size := by have := hx.size; simp at this; omega
  go_wp2_with (go_at_call 21; refine (eqStore_c _ _ _ _ p.B q.B _ (hf'.ext hX) (hg'.ext hX) (hd'.ext hX) (he'.ext hX) hn' hm').mono ?_; rintro e2 w2 ⟨rfl, hx2⟩; have hc2 := (bcell hx2).1)
  · go_ret
    exact ⟨by simp_all [pairEq], hX⟩
  all_goals
    go_ret
    exact ⟨by simp_all [pairEq], ext_trans hX ‹_›⟩

-- (not in this seat: function laws.lqFlash)

-- (not in this seat: function laws.lqStore)

-- (not in this seat: function laws.lqPair)
end Go.Bu

set_option linter.unusedVariables false
set_option linter.unusedSimpArgs false
namespace Go.Bu
open Go Go.RowKit Go.Plan Go.Proofs

theorem listEq_refl' {α : Type} {eq : α → α → Bool} (h : ∀ x, eq x x = true) : ∀ xs : List α, listEq eq xs xs = true
  | [] => rfl
  | x :: xs => by simp [listEq, h x, listEq_refl' h xs]
theorem storeEq_refl (s : Store) : storeEq s s = true := by
  unfold storeEq flashEq intsEq
  rw [listEq_refl' (fun b => by simp [blockEq, listEq_refl' (eq := pageEq) (fun p => by simp [pageEq, recEq]) b.pages]) s.flash, listEq_refl' (fun x => by simp [intEq]) s.disk]; rfl
theorem pairEq_refl (p : Pair) : pairEq p p = true := by simp [pairEq, storeEq_refl]
theorem Small.fits {s : Store} (h : Small s) (f : List Block) : Fits s.flash f := ⟨.inl h.1, fun i hi _ => .inl (h.2.1 _ (List.getElem_mem hi))⟩
theorem Small.fits' {s : Store} (h : Small s) (f : List Block) : Fits f s.flash := ⟨.inr h.1, fun i _ hi => .inr (h.2.1 _ (List.getElem_mem hi))⟩
theorem Small.fitsI {s : Store} (h : Small s) (d : List Int) : FitsI s.disk d := .inl h.2.2
theorem Small.fitsI' {s : Store} (h : Small s) (d : List Int) : FitsI d s.disk := .inr h.2.2
def pairOkB (p : Pair) : Bool := inB p.lost 0 2 && (storeOkB p.A && storeOkB p.B)

theorem specPairOk_c (f d g e : Value) (p : Pair) (w : World) (hA : StoreV w f d p.A) (hB : StoreV w g e p.B) (hsA : p.A.flash.length ≤ 1048576) (hsB : p.B.flash.length ≤ 1048576) :
    Calls Tryz.prog 26 #[.agg #[f, d, g, e, .int .i64 p.lost]] w (Ret w (.bool (pairOkB p))) := by
  have hFA := fun (w' : World) (hx : Ext w w') => specStoreOk_c f d p.A w' (hA.ext hx) hsA
  have hFB := fun (w' : World) (hx : Ext w w') => specStoreOk_c g e p.B w' (hB.ext hx) hsB
  unfold pairOkB
  obtain ⟨a1, c1, rfl⟩ := hA.1.form
  obtain ⟨a2, c2, rfl⟩ := hA.2.form
  obtain ⟨a3, c3, rfl⟩ := hB.1.form
  obtain ⟨a4, c4, rfl⟩ := hB.2.form
  generalize storeOkB p.A = u at *
  generalize storeOkB p.B = v at *
  generalize hi : inB p.lost 0 2 = q at *
  cases u
  · go_enter Tryz.func26, Tryz.ntmps26
    go_wp2_with fail
    refine (hFA _ (ext_alloc (ext_refl _) _)).mono ?_; rintro e1 w1 ⟨rfl, hx1⟩
    go_wp2_with fail
    go_ret
    exact ⟨by cases q <;> rfl, ext_trans (ext_alloc (ext_refl w) _) hx1⟩
  · cases v
    · go_enter Tryz.func26, Tryz.ntmps26
      go_wp2_with fail
      refine (hFA _ (ext_alloc (ext_refl _) _)).mono ?_; rintro e1 w1 ⟨rfl, hx1⟩
      have G1 := keep_ext hx1 (hg_new (b := w.heap.size) rfl)
      obtain ⟨g1, gf1⟩ := cellsK G1
      have l1 := heap_lt G1
      have X1 := ext_trans (ext_alloc (ext_refl w) _) hx1
      clear hFA
      go_wp2_with fail
      refine (hFB _ X1).mono ?_; rintro e2 w2 ⟨rfl, hx2⟩
      go_wp2_with fail
      go_ret
      exact ⟨by cases q <;> rfl, ext_trans X1 hx2⟩
    · go_enter Tryz.func26, Tryz.ntmps26
      go_wp2_with fail
      refine (hFA _ (ext_alloc (ext_refl _) _)).mono ?_; rintro e1 w1 ⟨rfl, hx1⟩
      have G1 := keep_ext hx1 (hg_new (b := w.heap.size) rfl)
      obtain ⟨g1, gf1⟩ := cellsK G1
      have l1 := heap_lt G1
      have X1 := ext_trans (ext_alloc (ext_refl w) _) hx1
      clear hFA
      go_wp2_with fail
      refine (hFB _ X1).mono ?_; rintro e2 w2 ⟨rfl, hx2⟩
      replace G1 := keep_ext hx2 G1
      have X2 := ext_trans X1 hx2
      clear g1 gf1 l1 hFB
      obtain ⟨g1, gf1⟩ := cellsK G1
      have l1 := heap_lt G1
      go_wp2_with (go_at_call 55; refine (l6In_c _ _ _ _).mono ?_; rw [hi]; rintro e w' ⟨rfl, rfl⟩)
      go_ret
      exact ⟨by cases q <;> rfl, X2⟩
end Go.Bu

set_option linter.unusedVariables false
set_option linter.unusedSimpArgs false
namespace Go.Bu
open Go Go.RowKit Go.Plan Go.Proofs

/-- where a row lies: its block, its first cell, its capacity, its type -/
structure At where
  b : Nat
  o : Nat
  cap : Nat
  T : Nat
abbrev At.v (p : At) (n : Nat) : Value := .slice (some ⟨p.b, p.o, none⟩) n (n + p.cap)

/-- where a store lies -/
structure SC where
  F : At
  ps : List At
  D : At
def SC.fl (c : SC) : List Nat := c.F.b :: c.ps.map (·.b)
def SC.L (c : SC) : List Nat := c.fl ++ [c.D.b]
abbrev SC.fv (c : SC) (s : Store) : Value := c.F.v s.flash.length
abbrev SC.dv (c : SC) (s : Store) : Value := c.D.v s.disk.length

def rowOf (x : Block) (p : At) : Value × Int := (p.v x.pages.length, x.worn)
def rowsOf (f : List Block) (ps : List At) : List (Value × Int) := List.zipWith rowOf f ps

structure FlashAt (c : SC) (w : World) (f : List Block) : Prop where
  row : OwnAt 2 rowC c.F.T w c.F.b c.F.o (rowsOf f c.ps)
  len : c.ps.length = f.length
  pages : ∀ (i : Nat) x p, f[i]? = some x → c.ps[i]? = some p → OwnAt 5 pageC p.T w p.b p.o x.pages

structure OwnS (c : SC) (w : World) (s : Store) : Prop where
  flash : FlashAt c w s.flash
  disk : OwnAt 1 intC c.D.T w c.D.b c.D.o s.disk
  nd : c.L.Nodup

section
variable {c : SC} {w w' : World} {f : List Block} {s : Store}

theorem rowsOf_get {f : List Block} {ps : List At} {i : Nat} {x : Block} {p : At} (hx : f[i]? = some x) (hp : ps[i]? = some p) : (rowsOf f ps)[i]? = some (rowOf x p) := by
  unfold rowsOf; rw [List.getElem?_zipWith, hx, hp]
theorem rowsOf_len {f : List Block} {ps : List At} (h : ps.length = f.length) : (rowsOf f ps).length = f.length := by
  unfold rowsOf; rw [List.length_zipWith]; omega

theorem FlashAt.lt (h : FlashAt c w f) : ∀ b ∈ c.fl, b < w.heap.size := by
  intro b hb
  rcases List.mem_cons.1 hb with rfl | hb
  · exact h.row.lt
  · obtain ⟨p, hp, rfl⟩ := List.mem_map.1 hb
    obtain ⟨i, hi, rfl⟩ := List.mem_iff_getElem.1 hp
    have hif : i < f.length := by rw [← h.len]; exact hi
    exact (h.pages i f[i] c.ps[i] (List.getElem?_eq_getElem hif) (List.getElem?_eq_getElem hi)).lt
theorem FlashAt.keep (h : FlashAt c w f) (hk : ∀ b ∈ c.fl, w'.heap[b]? = w.heap[b]?) : FlashAt c w' f :=
  ⟨h.row.keep (hk _ (by simp [SC.fl])), h.len, fun i x p hx hp => (h.pages i x p hx hp).keep (hk _ (List.mem_cons_of_mem _ (List.mem_map.2 ⟨p, List.mem_of_getElem? hp, rfl⟩)))⟩
theorem OwnS.lt (h : OwnS c w s) : ∀ b ∈ c.L, b < w.heap.size := by
  intro b hb
  rcases List.mem_append.1 hb with hb | hb
  · exact h.flash.lt b hb
  · obtain rfl := List.mem_singleton.1 hb; exact h.disk.lt
theorem OwnS.keep (h : OwnS c w s) (hk : ∀ b ∈ c.L, w'.heap[b]? = w.heap[b]?) : OwnS c w' s :=
  ⟨h.flash.keep fun b hb => hk b (List.mem_append_left _ hb), h.disk.keep (hk _ (by simp [SC.L])), h.nd⟩
theorem OwnS.ext (h : OwnS c w s) (hx : Ext w w') : OwnS c w' s := h.keep fun b hb => hx.block b (h.lt b hb)
theorem OwnS.chg {L : List Nat} (h : OwnS c w s) (hx : Chg L w w') (hL : ∀ b ∈ c.L, b ∉ L) : OwnS c w' s := h.keep fun b hb => hx.block b (h.lt b hb) (hL b hb)
theorem OwnS.set (h : OwnS c w s) {p : Addr} (hp : p.block ∉ c.L) (u : Value) : OwnS c (w.setCell p u) s :=
  h.keep fun b hb => Below.heap_setCell _ _ _ _ (by rintro rfl; exact hp hb)

theorem OwnS.set2 {p : Addr} {u : Value} (hp : p.block ∉ c.L) (h : OwnS c w s) : OwnS c (w.setCell p u) s := h.set hp u
theorem OwnS.alloc2 {o : Obj} (h : OwnS c w s) : OwnS c (w.alloc o) s := h.ext (ext_alloc (ext_refl _) _)
theorem OwnS.new (h : OwnS c w s) : ∀ b, w.heap.size ≤ b → b ∉ c.L := fun b hb hm => by have := h.lt b hm; omega

/-- as others read it -/
theorem FlashAt.flash (h : FlashAt c w f) : Flash (Old w) w (c.F.v f.length) f := by
  have hlt := h.lt
  obtain ⟨k, hk, hi⟩ := h.row
  refine ⟨_, _, rfl, fun i x hx => ?_⟩
  have hil : i < f.length := (List.getElem?_eq_some_iff.1 hx).1
  have hip : i < c.ps.length := by rw [h.len]; exact hil
  have hp := h.pages i x c.ps[i] hx (List.getElem?_eq_getElem hip)
  refine ⟨c.F.b, c.F.o, rowC (rowOf x c.ps[i]), rfl, hlt _ (by simp [SC.fl]), ⟨_, rfl, hp.of hp.lt _⟩, fun j u hu => ?_⟩
  rw [cell_block hk]
  exact hi i _ (rowsOf_get hx (List.getElem?_eq_getElem hip)) j u hu
theorem OwnS.fl (h : OwnS c w s) : Flash (Old w) w (c.fv s) s.flash := h.flash.flash
theorem OwnS.dk (h : OwnS c w s) : Ints (Old w) w (c.dv s) s.disk := h.disk.of h.disk.lt _

theorem SC.fl_nd (h : c.L.Nodup) : c.fl.Nodup := (List.nodup_append.1 h).1
theorem SC.ps_ne {i j : Nat} {p q : At} (h : c.fl.Nodup) (hp : c.ps[i]? = some p) (hq : c.ps[j]? = some q) (hij : i ≠ j) : p.b ≠ q.b := fun e =>
  hij (nodup_inj (List.nodup_cons.1 h).2 (b := p.b) (by rw [List.getElem?_map, hp]; rfl) (by rw [List.getElem?_map, hq, e]; rfl))
theorem SC.F_ne {i : Nat} {p : At} (h : c.fl.Nodup) (hp : c.ps[i]? = some p) : p.b ≠ c.F.b := fun e =>
  (List.nodup_cons.1 h).1 (List.mem_map.2 ⟨p, List.mem_of_getElem? hp, e⟩)
theorem SC.D_ne (h : c.L.Nodup) : ∀ b ∈ c.fl, b ≠ c.D.b := fun b hb => (List.nodup_append.1 h).2.2 b hb _ (by simp)

/-- a block's cells -/
theorem FlashAt.two (h : FlashAt c w f) {i : Nat} {p : At} (hi : i < f.length) (hp : c.ps[i]? = some p) :
    w.cell? ⟨c.F.b, c.F.o + i * 2, none⟩ = some (p.v f[i].pages.length) ∧ w.cell? ⟨c.F.b, c.F.o + i * 2 + 1, none⟩ = some (.int .i64 f[i].worn) := by
  have hx := rowsOf_get (List.getElem?_eq_getElem hi) hp
  exact ⟨h.row.cell hx (j := 0) rfl, h.row.cell hx (j := 1) rfl⟩

theorem zipWith_set {f : List Block} {ps : List At} {i : Nat} {x : Block} {p : At} (hp : ps[i]? = some p) : rowsOf (f.set i x) ps = (rowsOf f ps).set i (rowOf x p) := by
  unfold rowsOf
  apply List.ext_getElem?
  intro j
  rw [List.getElem?_zipWith, List.getElem?_set, List.getElem?_set, List.getElem?_zipWith]
  by_cases hij : i = j
  · subst hij
    rw [if_pos rfl, if_pos rfl, hp]
    have hip : i < ps.length := (List.getElem?_eq_some_iff.1 hp).1
    by_cases hf : i < f.length
    · rw [if_pos hf, if_pos (by rw [List.length_zipWith]; omega)]
    · rw [if_neg hf, if_neg (by rw [List.length_zipWith]; omega)]
  · rw [if_neg hij, if_neg hij]

/-- a block's wear, written -/
theorem FlashAt.worn (h : FlashAt c w f) (hnd : c.fl.Nodup) {i : Nat} {p : At} (hi : i < f.length) (hp : c.ps[i]? = some p) (n : Int) :
    FlashAt c (w.setCell ⟨c.F.b, c.F.o + i * 2 + 1, none⟩ (.int .i64 n)) (f.set i ⟨f[i].pages, n⟩) := by
  have hrl : i < (rowsOf f c.ps).length := by rw [rowsOf_len h.len]; exact hi
  have hget : (rowsOf f c.ps)[i] = rowOf f[i] p := by
    have := rowsOf_get (List.getElem?_eq_getElem hi) hp
    rw [List.getElem?_eq_getElem hrl] at this; exact Option.some.inj this
  refine ⟨?_, by rw [List.length_set]; exact h.len, fun j x q hx hq => ?_⟩
  · rw [zipWith_set hp]
    exact OwnAt.set1 (n := 2) (enc := rowC) (fun _ => rfl) h.row hrl (j := 1) (by omega) _ _ (by rw [hget]; rfl)
  · have hne : q.b ≠ c.F.b := SC.F_ne hnd hq
    have hk : OwnAt 5 pageC q.T w q.b q.o x.pages := by
      rw [List.getElem?_set] at hx
      by_cases hij : i = j
      · subst hij
        rw [if_pos rfl, if_pos hi] at hx
        obtain rfl := Option.some.inj hx
        exact h.pages i f[i] q (List.getElem?_eq_getElem hi) hq
      · rw [if_neg hij] at hx; exact h.pages j x q hx hq
    exact hk.keep (Below.heap_setCell _ _ _ _ hne)

/-- a page, written -/
theorem FlashAt.page (h : FlashAt c w f) (hnd : c.fl.Nodup) {i k : Nat} {p : At} (hi : i < f.length) (hp : c.ps[i]? = some p) (hk : k < f[i].pages.length) (y : Page) :
    FlashAt c (setAll w p.b (p.o + k * 5) (pageC y)) (f.set i ⟨f[i].pages.set k y, f[i].worn⟩) := by
  have hrl : i < (rowsOf f c.ps).length := by rw [rowsOf_len h.len]; exact hi
  have hget : (rowsOf f c.ps)[i] = rowOf f[i] p := by
    have := rowsOf_get (List.getElem?_eq_getElem hi) hp
    rw [List.getElem?_eq_getElem hrl] at this; exact Option.some.inj this
  refine ⟨?_, by rw [List.length_set]; exact h.len, fun j x q hx hq => ?_⟩
  · rw [zipWith_set hp, show rowOf ⟨f[i].pages.set k y, f[i].worn⟩ p = (rowsOf f c.ps)[i] from by rw [hget]; simp [rowOf], List.set_getElem_self]
    exact h.row.keep (setAll_other _ (SC.F_ne hnd hp).symm _ _ _)
  · rw [List.getElem?_set] at hx
    by_cases hij : i = j
    · subst hij
      rw [hp] at hq
      obtain rfl := Option.some.inj hq
      rw [if_pos rfl, if_pos hi] at hx
      obtain rfl := Option.some.inj hx
      exact OwnAt.set (n := 5) (enc := pageC) (fun _ => rfl) (by omega) (h.pages i f[i] p (List.getElem?_eq_getElem hi) hp) hk y
    · rw [if_neg hij] at hx
      exact (h.pages j x q hx hq).keep (setAll_other _ (SC.ps_ne hnd hq hp (Ne.symm hij)) _ _ _)
end

theorem FlashAt.two' {c : SC} {w : World} {f : List Block} (h : FlashAt c w f) {i : Nat} {p : At} {x : Block} (hx : f[i]? = some x) (hp : c.ps[i]? = some p) :
    w.cell? ⟨c.F.b, c.F.o + i * 2, none⟩ = some (p.v x.pages.length) ∧ w.cell? ⟨c.F.b, c.F.o + i * 2 + 1, none⟩ = some (.int .i64 x.worn) := by
  obtain ⟨hi, rfl⟩ := List.getElem?_eq_some_iff.1 hx
  exact h.two hi hp
theorem FlashAt.page' {c : SC} {w : World} {f : List Block} (h : FlashAt c w f) (hnd : c.fl.Nodup) {i k : Nat} {p : At} {x : Block} (hx : f[i]? = some x) (hp : c.ps[i]? = some p) (hk : k < x.pages.length) (y : Page) :
    FlashAt c (setAll w p.b (p.o + k * 5) (pageC y)) (f.set i ⟨x.pages.set k y, x.worn⟩) := by
  obtain ⟨hi, rfl⟩ := List.getElem?_eq_some_iff.1 hx
  exact h.page hnd hi hp hk y
theorem FlashAt.there {c : SC} {w : World} {f : List Block} (h : FlashAt c w f) {i k : Nat} {p : At} {x : Block} (hx : f[i]? = some x) (hp : c.ps[i]? = some p) (hk : k < x.pages.length) : w.there p.b (p.o + k * 5) 5 := by
  intro j hj
  have hy := (h.pages i x p hx hp)
  have := hy.cell (List.getElem?_eq_getElem hk) (j := j) (u := (pageC x.pages[k])[j]'(by simpa using hj)) (List.getElem?_eq_getElem _)
  rw [this, hy.frozen]; exact ⟨rfl, rfl⟩
theorem setAll_chg {L : List Nat} {w w' : World} {b o : Nat} (h : Chg L w w') (hb : b ∈ L) (xs : List Value) : Chg L w (setAll w' b o xs) := by
  have hbl := setAll_below b 0 (Nat.zero_le _) xs w' o
  exact h.trans ⟨hbl.os, hbl.tape, hbl.output, hbl.size, fun k hk hn => setAll_other b (by rintro rfl; exact hn hb) _ _ _⟩

/-- a store of the call's own as it was told before, its addresses named -/
theorem OwnStore.at_ {w : World} {f d : Value} {s : Store} {L : List Nat} (h : OwnStore w f d s L) (hnd : L.Nodup) : ∃ c : SC, c.L = L ∧ f = c.fv s ∧ d = c.dv s ∧ OwnS c w s := by
  obtain ⟨B, bs, D, rfl, ⟨rows, ⟨T, o, cap, rfl, hrow⟩, h2, h3, h4⟩, TD, od, dcap, rfl, hd⟩ := h
  have hex : ∀ i : Fin bs.length, ∃ p : At, p.b = bs[i] ∧ ∀ x r, s.flash[i.1]? = some x → rows[i.1]? = some r → r = rowOf x p ∧ OwnAt 5 pageC p.T w p.b p.o x.pages := by
    intro i
    have hi := i.2
    have hif : i.1 < s.flash.length := by omega
    have hir : i.1 < rows.length := by omega
    obtain ⟨h5, T', o', cap', hv, h6⟩ := h4 i.1 s.flash[i.1] rows[i.1] bs[i.1] (List.getElem?_eq_getElem hif) (List.getElem?_eq_getElem hir) (List.getElem?_eq_getElem hi)
    refine ⟨⟨bs[i.1], o', cap', T'⟩, rfl, fun x r hx hr => ?_⟩
    rw [List.getElem?_eq_getElem hif] at hx; rw [List.getElem?_eq_getElem hir] at hr
    obtain rfl := Option.some.inj hx; obtain rfl := Option.some.inj hr
    exact ⟨Prod.ext hv h5, h6⟩
  obtain ⟨g, hg⟩ := Classical.axiomOfChoice hex
  have hps : (List.ofFn g).map (·.b) = bs := by
    apply List.ext_getElem
    · simp
    · intro i h1 h2; simp; exact (hg ⟨i, by simpa using h1⟩).1
  refine ⟨⟨⟨B, o, cap, T⟩, List.ofFn g, ⟨D, od, dcap, TD⟩⟩, ?_, ?_, rfl, ⟨⟨?_, by simp; omega, fun i x p hx hp => ?_⟩, hd, ?_⟩⟩
  · simp [SC.L, SC.fl, hps]
  · show Value.slice _ _ _ = _; rw [h2]
  · have : rowsOf s.flash (List.ofFn g) = rows := by
      apply List.ext_getElem
      · rw [rowsOf_len (by simp; omega)]; omega
      · intro i h1 h2'
        have hib : i < bs.length := by omega
        have hif : i < s.flash.length := by omega
        have := rowsOf_get (f := s.flash) (ps := List.ofFn g) (List.getElem?_eq_getElem hif) (p := g ⟨i, hib⟩) (by simp [hib])
        rw [List.getElem?_eq_getElem h1] at this
        rw [Option.some.inj this]
        exact ((hg ⟨i, hib⟩).2 s.flash[i] rows[i] (List.getElem?_eq_getElem hif) (List.getElem?_eq_getElem h2')).1.symm
    rw [this]; exact hrow
  · have hip : i < bs.length := by have := (List.getElem?_eq_some_iff.1 hp).1; simpa using this
    have hpe : p = g ⟨i, hip⟩ := by
      have := hp
      simp [hip] at this; exact this.symm
    subst hpe
    exact ((hg ⟨i, hip⟩).2 x rows[i] hx (List.getElem?_eq_getElem (by omega))).2
  · simp [SC.L, SC.fl, hps] at hnd ⊢; exact hnd
end Go.Bu

set_option linter.unusedVariables false
set_option linter.unusedSimpArgs false
namespace Go.Bu
open Go Go.RowKit Go.Plan Go.Proofs

theorem ok_inj {α : Type} {x : Result α} {a b : α} {w w' : World} (h1 : x = .ok a w) (h2 : x = .ok b w') : a = b ∧ w = w' := by
  rw [h1] at h2; injection h2 with h3 h4; exact ⟨h3, h4⟩

/-- an append leaves the row that it was given as it was, as far as that goes -/
theorem app_keeps {P : Program} (w : World) (base : Nat) (t ty e : TypeId) (i : TypeInfo) (z : Value) (ht : P.underlying t = some (.slice e)) (hi : P.info? e = some i) (hz : i.zero = some z)
    (v : Value) (n : Nat) (xs : List Value) (hown : w.ownsRow base e i.size v n xs)
    (a : Addr) (m c : Nat) (news : List Value) (hl : news.length = m * i.size) (hnews : ∀ j u, news[j]? = some u → w.cell? (a.add j) = some u) (h1 : ∀ u ∈ news, u.oneCell' = true)
    (h63 : n + m ≤ maxLen) (hbytes : (n + m) * i.bytes ≤ 140737488355328) {v' : Value} {w' : World} (hr : (Builtin.append_ #[t, t] ty #[v, .slice (some a) m c]).run P w = .ok v' w') : w'.ownsRow base e i.size v n xs := by
  have hsmall : n + m ≤ 9223372036854775807 := by simp only [maxLen] at h63; omega
  have hown0 := hown
  obtain ⟨hlen, hv⟩ := hown
  rcases hv with ⟨rfl, rfl⟩ | ⟨g, cap, cur, rfl, hbg, hg, hnc, hcm, hcs, htake⟩
  · exact ⟨hlen, .inl ⟨rfl, rfl⟩⟩
  · refine ⟨hlen, .inr ?_⟩
    by_cases hroom : n + m ≤ cap
    · have hfit : n * i.size + news.length ≤ cur.size := by rw [hl, hcs, ← Nat.add_mul]; exact Nat.mul_le_mul_right _ hroom
      obtain ⟨_, rfl⟩ := ok_inj hr (run_append_room (P := P) w t ty e i ht hi g n cap cur hg a m c news hl hnews h1 hroom hfit)
      refine ⟨g, cap, _, rfl, hbg, setRow_heap w g cur _ e _ hg, hnc, hcm, ?_, ?_⟩
      · simp only [List.size_toArray, List.length_append, List.length_take, List.length_drop, Array.length_toList]
        omega
      · have hl2 : (cur.toList.take (n * i.size)).length = n * i.size := by rw [htake, hlen]
        rw [List.append_assoc, List.take_append_of_le_length (by omega), List.take_of_length_le (by omega), htake]
    · obtain ⟨_, rfl⟩ := ok_inj hr (run_append_grow (P := P) w t ty e i z ht hi hz ⟨g, 0, none⟩ n cap xs hlen (hown0.cells (g := g) rfl) a m c news hl hnews (by omega) (by omega) (growslice_fits (by omega) hbytes))
      exact ⟨g, cap, cur, rfl, hbg, keep_ext (ext_alloc (ext_drew w) _) hg, hnc, hcm, hcs, htake⟩

/-- a region within which one row of the call's own grows: everything else that stood stays -/
structure SA (w0 W : World) (base : Nat) (e : TypeId) (size : Nat) (v : Value) (n : Nat) (xs : List Value) (w1 : World) : Prop where
  ext : Ext w0 w1
  siz : W.heap.size ≤ w1.heap.size
  same : ∀ b, b < W.heap.size → some b ≠ v.ownBlock → w1.heap[b]? = W.heap[b]?
  own : w1.ownsRow base e size v n xs

section
variable {w0 W w1 w2 : World} {base size n : Nat} {e : TypeId} {v : Value} {xs : List Value}
theorem SA.stab (h : SA w0 W base e size v n xs w1) (hx : Ext w1 w2) : SA w0 W base e size v n xs w2 :=
  ⟨ext_trans h.ext hx, Nat.le_trans h.siz hx.size, fun b hb hn => by rw [hx.block b (Nat.lt_of_lt_of_le hb h.siz)]; exact h.same b hb hn, ownsRow_ext h.own hx⟩
theorem SA.start (hx : Ext w0 W) (ho : W.ownsRow base e size v n xs) : SA w0 W base e size v n xs W.drew :=
  ⟨ext_trans hx (ext_drew W), (ext_drew W).size, fun b hb _ => (ext_drew W).block b hb, ownsRow_ext ho (ext_drew W)⟩
/-- a block of another type stays -/
theorem SA.keep (h : SA w0 W base e size v n xs w1) (ho : W.ownsRow base e size v n xs) {b : Nat} {c : Array Value} {T : TypeId} {fr : Nat × Nat} (hT : T ≠ e) (hb : W.heap[b]? = some (.cells c T fr)) : w1.heap[b]? = some (.cells c T fr) := by
  rw [h.same b (heap_lt hb) ?_]; exact hb
  intro hB
  rcases ho.2 with ⟨rfl, _⟩ | ⟨g, cap, cur, rfl, _, hh, _⟩
  · simp [Value.ownBlock] at hB
  · simp [Value.ownBlock] at hB
    subst hB
    rw [hh] at hb
    simp at hb
    exact hT hb.2.1.symm
end

section
variable {P : Program} {l : List Oper} {Q : Exit → Act → World → Prop} {ch L heads : List Nat} {lates : Lates} {tail : List Nat} {B0 : Nat} {S C : World → Prop} {iv : List (Nat × Nat)} {H : Nat} {a : Act}
  {fin : (World → Prop) → List (Nat × Nat) → Nat → Act → Prop} {w0 W : World} {base size n : Nat} {e : TypeId} {v : Value} {xs : List Value}

theorem wp_region_sa (hx : Ext w0 W) (ho : W.ownsRow base e size v n xs) (ch heads : List Nat) (lates : Lates) (tail : List Nat) {id : Nat} {a : Act} (hm : P.follows .mixedOrders = true)
    (hok : okPlan l ch heads (lates.map (·.1)) tail = true)
    (hlate : ∀ f ∈ lates, ∃ o, l[f.1]? = some o ∧ ∀ (a : Act) (w : World), (execOp a.eval o).run P w = .ok (.value (f.2.2 w.heap.size)) (w.alloc f.2.1))
    (h : Rob P l ch W.heap.size (Fin P l Q W.heap.size lates tail) heads (SA w0 W base e size v n xs) (fun _ => True) [] W.heap.size a) : (Code.region id l.toArray true).wp P Q a W :=
  wp_region_plan ch heads lates tail hm hok hlate _ (SA.start hx ho) (fun _ _ h1 h2 => h1.stab h2) h

/-- an operation that lays one block -/
theorem Rob.al {i : Nat} {o : Oper} (ob : Obj) (f : Nat → Value) (ho : l[i]? = some o) (hc : ch.contains i = true) (hg : Region.wanted o (yielded l.toArray a.tmps) = true)
    (hS : ∀ w w', S w → Ext w w' → S w') (hrun : ∀ w1, (execOp a.eval o).run P w1 = .ok (.value (f w1.heap.size)) (w1.alloc ob))
    (h : ∀ lo hi, H ≤ lo → lo < hi → Rob P l ch B0 fin L (fun w => S w ∧ w.heap[lo]? = some ob) C (iv ++ [(lo, hi)]) hi (a.put o.dst (f lo))) (hCs : ∀ w w', C w → Ext w w' → C w' := by exact fun _ _ h _ => h) : Rob P l ch B0 fin (i :: L) S C iv H a := by
  refine ⟨o, ho, .inr ⟨hc, hg, fun lo hi v w1 => v = f lo ∧ lo < hi ∧ w1.heap[lo]? = some ob, fun _ _ _ => C, ⟨fun lo hi v w1 w2 h hx => ⟨h.1, h.2.1, keep_ext hx h.2.2⟩, fun _ _ _ => hCs⟩, fun w1 hs hcw hw => ?_, fun lo hi v h1 h2 ⟨_, ⟨hv, hlt, _⟩, _⟩ => ?_⟩⟩
  · unfold RunTo
    rw [hrun w1]
    exact ⟨.of_ext (ext_alloc (ext_refl _) _), hS _ _ hs (ext_alloc (ext_refl _) _), ⟨rfl, by simp, hg_new rfl⟩, hCs _ _ hcw (ext_alloc (ext_refl _) _)⟩
  · subst hv
    have := h lo hi h1 hlt
    rw [show (fun w1 => S w1 ∧ f lo = f lo ∧ lo < hi ∧ w1.heap[lo]? = some ob) = (fun w1 => S w1 ∧ w1.heap[lo]? = some ob) from funext fun w => by simp [hlt]]
    exact this

/-- the append itself, of a new block's elements -/
theorem Rob.app {i : Nat} {o : Oper} {s x : Operand} {t : TypeId} {ob : Obj} {lo : Nat} (bytes : Nat) (cs : List Value) (m : Nat) (ho : l[i]? = some o) (hc : ch.contains i = true) (hg : Region.wanted o (yielded l.toArray a.tmps) = true)
    (hop : o.op = .call { callee := .builtin .append, args := #[s, x], argTypes := #[t, t] }) (hs : a.eval s = v) (hx : a.eval x = .slice (some ⟨lo, 0, none⟩) m m)
    (ht : P.underlying t = some (.slice e)) (hi : (P.info? e).bind (fun i => i.zero.map fun z => (z.cells.size, i.size, i.bytes)) = some (size, size, bytes)) (hsz : 0 < size)
    (hob : ob = .cells cs.toArray e (0, 0)) (hcs : cs.length = m * size) (h1 : ∀ u ∈ cs, u.oneCell' = true) (h63 : n + m ≤ maxLen) (hbytes : (n + m) * bytes ≤ 140737488355328) (hbase : base ≤ B0) (hBH : W.heap.size ≤ H) (hW : w0.heap.size = base) (hown : W.ownsRow base e size v n xs) (hlo : W.heap.size ≤ lo) (hB : B0 = W.heap.size)
    (h : ∀ lo' hi' v', H ≤ lo' → Rob P l ch B0 fin L (fun w => (SA w0 W base e size v n xs w ∧ w.heap[lo]? = some ob) ∧ w.ownsRow base e size v' (n + m) (xs ++ cs)) (fun _ => True) (iv ++ [(lo', hi')]) hi' (a.put o.dst v')) :
    Rob P l ch B0 fin (i :: L) (fun w => SA w0 W base e size v n xs w ∧ w.heap[lo]? = some ob) (fun _ => True) iv H a := by
  have hvl : ∀ k, v.ownBlock = some k → k < W.heap.size := fun k hk => (hown.lt k hk).2
  refine ⟨o, ho, .inr ⟨hc, hg, fun lo' hi' v' w1 => w1.ownsRow base e size v' (n + m) (xs ++ cs), fun _ _ _ _ => True, ⟨fun lo' hi' v' w1 w2 h hx => ownsRow_ext h hx, fun _ _ _ _ _ _ _ => trivial⟩, fun w1 hsw _ hw => ?_, fun lo' hi' v' hh1 hh2 ⟨_, hv, _⟩ => h lo' hi' v' hh1⟩⟩
  obtain ⟨hSA, hlo1⟩ := hsw
  obtain ⟨inf, hi1, hi2⟩ := Option.bind_eq_some_iff.1 hi
  obtain ⟨z, hz, he⟩ := Option.map_eq_some_iff.1 hi2
  obtain ⟨hzs, he⟩ := Prod.mk.inj he
  obtain ⟨hsize, hby⟩ := Prod.mk.inj he
  subst hob
  have hnews : ∀ j u, cs[j]? = some u → w1.cell? ((⟨lo, 0, none⟩ : Addr).add j) = some u := fun j u hu => by
    rw [Addr.add_mid, cell_block hlo1, Nat.zero_add]; simpa using hu
  obtain ⟨v', w', hr, hown', hgr, _⟩ := run_append_own (P := P) w1 base t o.type e inf z size bytes ht hi1 hz hsize hby hzs hsz v n xs hSA.own ⟨lo, 0, none⟩ m m cs hcs hnews h1 h63 hbytes (by have := hSA.siz; omega)
  subst hsize hby
  have hkeep := app_keeps (P := P) w1 base t o.type e inf z ht hi1 hz v n xs hSA.own ⟨lo, 0, none⟩ m m cs hcs hnews h1 h63 hbytes hr
  unfold RunTo execOp
  simp only [hop, resolve, invoke, builtin, Sem.run_bind, Sem.run_pure, Result.andThen_ok, List.map_toArray, List.map_cons, List.map_nil, hs, hx, hr]
  have hlb : ∀ b, b < w1.heap.size → some b ≠ v.ownBlock → w'.heap[b]? = w1.heap[b]? := fun b hb hn => hgr.block b hb hn
  refine ⟨⟨hgr.size, fun b hb hbl _ => hlb b hbl fun e => ?_⟩, ⟨⟨?_, Nat.le_trans hSA.siz hgr.size, fun b hb hn => ?_, hkeep⟩, ?_⟩, hown', trivial⟩
  · have := hvl b e.symm; omega
  · have ho2 := hSA.own
    rw [← hW] at ho2
    exact ext_grown hSA.ext ho2 hgr
  · rw [hlb b (Nat.lt_of_lt_of_le hb hSA.siz) hn]; exact hSA.same b hb hn
  · rw [hlb lo (heap_lt hlo1) fun e => ?_]
    · exact hlo1
    · have := hvl lo e.symm; omega
end
end Go.Bu

set_option linter.unusedVariables false
set_option linter.unusedSimpArgs false
namespace Go.Bu
open Go Go.RowKit Go.Plan Go.Proofs

/-- steps in a row that was made since base -/
abbrev SRow (base : Nat) (w : World) (v : Value) (xs : List Step) : Prop := w.ownsRow base 88 8 v xs.length (xs.flatMap stepC)

theorem SRow.nil (base : Nat) (w : World) : SRow base w (.slice none 0 0) [] := ⟨rfl, .inl ⟨rfl, rfl⟩⟩
theorem SRow.empty {base : Nat} {w : World} {B : Nat} (h : w.heap[B]? = some (.cells #[] 88 (0, 0))) (hb : base ≤ B) : SRow base w (.slice (some ⟨B, 0, none⟩) 0 0) [] := ⟨rfl, .inr ⟨B, 0, #[], rfl, hb, h, Nat.le_refl _, by simp, rfl, rfl⟩⟩
theorem SRow.one {base : Nat} {w : World} {B : Nat} {y : Step} (h : w.heap[B]? = some (.cells (stepC y).toArray 88 (0, 0))) (hb : base ≤ B) : SRow base w (.slice (some ⟨B, 0, none⟩) 1 1) [y] :=
  ⟨rfl, .inr ⟨B, 1, _, rfl, hb, h, Nat.le_refl _, by simp [maxLen], rfl, rfl⟩⟩
theorem SRow.ext {base : Nat} {w w' : World} {v : Value} {xs : List Step} (h : SRow base w v xs) (hx : Ext w w') : SRow base w' v xs := ownsRow_ext h hx
theorem SRow.form {base : Nat} {w : World} {v : Value} {xs : List Step} (h : SRow base w v xs) : ∃ a cap, v = .slice a xs.length cap := by
  obtain ⟨_, h2⟩ := h
  rcases h2 with ⟨rfl, h0⟩ | ⟨g, cap, cur, rfl, _⟩
  · exact ⟨none, 0, by rw [h0]⟩
  · exact ⟨_, cap, rfl⟩
theorem SRow.steps {base : Nat} {w : World} {v : Value} {xs : List Step} (h : SRow base w v xs) : Steps' (Old w) w v xs := by
  rcases h.2 with ⟨rfl, h0⟩ | ⟨g, cap, cur, rfl, _, hh, _, _, _, ht⟩
  · have : xs = [] := List.length_eq_zero_iff.1 h0
    subst this
    exact ⟨none, 0, rfl, fun i x hx => by simp at hx⟩
  · refine ⟨_, cap, rfl, fun i x hx => ⟨g, 0, stepC x, rfl, heap_lt hh, rfl, fun j u hu => ?_⟩⟩
    have := flat_get (enc := stepC) (n := 8) (fun _ => rfl) xs i x j u hx hu
    rw [← ht] at this
    have hlt := (List.getElem?_eq_some_iff.1 this).1
    rw [List.length_take] at hlt
    rw [List.getElem?_take_of_lt (by omega)] at this
    rw [cell_block hh, Nat.zero_add]
    simpa using this

/-- a block of another type stays as it is behind an append -/
theorem keep_grown {w w' : World} {b base size m : Nat} {c : Array Value} {T e : TypeId} {fr : Nat × Nat} {u : Value} {ys : List Value} (h : w.heap[b]? = some (.cells c T fr)) (hT : T ≠ e) (hu : w.ownsRow base e size u m ys) (hg : w.grownBy w' u.ownBlock) : w'.heap[b]? = some (.cells c T fr) := by
  rw [hg.block b (heap_lt h) ?_]; exact h
  intro hB
  rcases hu.2 with ⟨rfl, _⟩ | ⟨g, cap, cur, rfl, _, hh, _⟩
  · simp [Value.ownBlock] at hB
  · simp [Value.ownBlock] at hB
    subst hB
    rw [hh] at h
    simp at h
    exact hT h.2.1.symm

/-- append of one step -/
theorem wpList_appStep {w : World} {ops : Array Oper} {rest : List Oper} {o : Oper} {a : Act} {Q : Exit → Act → World → Prop} (hgd : o.guard = none) (s x : Operand)
    (ho : o.op = .call { callee := .builtin .append, args := #[s, x], argTypes := #[57, 57] }) {base : Nat} {v : Value} {xs : List Step} (hs : a.eval s = v) (hown : SRow base w v xs)
    {B : Nat} {y : Step} (hx : a.eval x = .slice (some ⟨B, 0, none⟩) 1 1) (hB : w.heap[B]? = some (.cells (stepC y).toArray 88 (0, 0))) (hlen : xs.length ≤ 1000000) (hbase : base ≤ w.heap.size)
    (h : ∀ v' w', SRow base w' v' (xs ++ [y]) → w.grownBy w' v.ownBlock → wpList Tryz.prog ops Q rest (a.put o.dst v') w') : wpList Tryz.prog ops Q (o :: rest) a w := by
  refine wpList_app hgd s x 57 ho base 88 8 64 Tryz.underlying57 (by kernel_rfl) (by omega) v xs.length (xs.flatMap stepC) hs hown ⟨B, 0, none⟩ 1 1 (stepC y) hx rfl (fun j u hu => ?_) (by simp [Value.oneCell']) (by simp [maxLen]; omega) (by omega) hbase (fun v' w' h1 h2 => h v' w' ?_ h2)
  · rw [Addr.add_mid, cell_block hB, Nat.zero_add]; simpa using hu
  · show w'.ownsRow _ _ _ _ _ _
    rw [List.length_append, List.flatMap_append]; simpa using h1

/-- append of a row of steps to another one -/
theorem wpList_appSteps {w : World} {ops : Array Oper} {rest : List Oper} {o : Oper} {a : Act} {Q : Exit → Act → World → Prop} (hgd : o.guard = none) (s x : Operand)
    (ho : o.op = .call { callee := .builtin .append, args := #[s, x], argTypes := #[57, 57] }) {base base2 : Nat} {v u : Value} {xs ys : List Step} (hs : a.eval s = v) (hown : SRow base w v xs)
    (hx : a.eval x = u) (hu : SRow base2 w u ys) (hne : ys ≠ []) (hlen : xs.length + ys.length ≤ 1000000) (hbase : base ≤ w.heap.size)
    (h : ∀ v' w', SRow base w' v' (xs ++ ys) → w.grownBy w' v.ownBlock → wpList Tryz.prog ops Q rest (a.put o.dst v') w') : wpList Tryz.prog ops Q (o :: rest) a w := by
  have hu2 := hu
  rcases hu.2 with ⟨rfl, h0⟩ | ⟨g, cap, cur, rfl, _, hh, _, _, _, ht⟩
  · exact absurd (List.length_eq_zero_iff.1 h0) hne
  refine wpList_app hgd s x 57 ho base 88 8 64 Tryz.underlying57 (by kernel_rfl) (by omega) v xs.length (xs.flatMap stepC) hs hown ⟨g, 0, none⟩ ys.length cap (ys.flatMap stepC) hx hu2.1 (hu2.cells rfl) (fun c hc => ?_) (by simp [maxLen]; omega) (by omega) hbase (fun v' w' h1 h2 => h v' w' ?_ h2)
  · obtain ⟨y, _, hy⟩ := List.mem_flatMap.1 hc
    simp at hy
    rcases hy with rfl | rfl | rfl | rfl | rfl | rfl | rfl | rfl <;> rfl
  · show w'.ownsRow _ _ _ _ _ _
    rw [List.length_append, List.flatMap_append]; exact h1

/-! ### the steps -/
def diskStepOf (p : Page) : Step := ⟨1, p.r.addr, p.r.val, 0, rec0⟩
def roomOne (f : List Block) (p : Page) : List Step := if liveP f p = true ∧ p.r.kind = 1 then [diskStepOf p] else []
def roomSteps (f : List Block) (ps : List Page) : List Step := ps.flatMap (roomOne f)
theorem roomSteps_drop (f : List Block) (ps : List Page) (k : Nat) (h : k < ps.length) : roomSteps f (ps.drop k) = roomOne f ps[k] ++ roomSteps f (ps.drop (k + 1)) := by
  rw [List.drop_eq_getElem_cons h]; rfl
def blockAt (f : List Block) (i : Nat) : Block := (f[i]?).getD ⟨[], 0⟩
def room (f : List Block) : List Step × Int × Bool :=
  if (openB f).2 then ([], (openB f).1, true) else (roomSteps f (blockAt f (old f)).pages ++ [⟨2, 0, 0, (old f : Int), rec0⟩], (old f : Int), decide ((blockAt f (old f)).worn < 200))
def writeSteps (f : List Block) (kind addr val : Int) : List Step :=
  if (room f).2.2 && recOkB ⟨kind, next f, addr, val⟩ then (room f).1 ++ [⟨3, 0, 0, (room f).2.1, ⟨kind, next f, addr, val⟩⟩] else []

theorem oldScan_lt (f : List Block) : ∀ (rest : List Block) (i out : Nat), out < f.length → i + rest.length ≤ f.length → oldScan f i out rest < f.length
  | [], _, out, h, _ => h
  | b :: rest, i, out, h, hl => by
    simp only [List.length_cons] at hl
    simp only [oldScan]
    refine oldScan_lt f rest _ _ ?_ (by omega)
    split <;> omega
theorem old_lt {f : List Block} (h : 0 < f.length) : old f < f.length := oldScan_lt f _ 1 0 h (by simp; omega)

set_option maxRecDepth 20000 in
set_option maxHeartbeats 2000000 in
theorem l12Room_c (fv dv : Value) (s : Store) (w : World) (h : StoreV w fv dv s) (hok : flashOkB s.flash = true) :
    Calls Tryz.prog 84 #[.agg #[fv, dv]] w (RetP w fun v w' => ∃ sv, v = .tuple #[sv, .int .i64 (room s.flash).2.1, .bool (room s.flash).2.2] ∧ SRow w.heap.size w' sv (room s.flash).1 ∧ (room s.flash).1.length ≤ 5) := by
  have hn : s.flash.length ≤ 1048576 := by have := flashOk_len hok; omega
  have HP := Lib.hid (pages_short hok)
  obtain ⟨hF, hD⟩ := h
  obtain ⟨fa, fc, rfl⟩ := hF.form
  obtain ⟨da, dc, rfl⟩ := hD.form
  have hol : old s.flash < s.flash.length := old_lt (by have := flashOk_len hok; omega)
  have hb4 : s.flash[old s.flash].pages.length = 4 := (flashOk_block hok (List.getElem_mem _)).1
  have hR : room s.flash = if (openB s.flash).2 then ([], (openB s.flash).1, true) else (roomSteps s.flash s.flash[old s.flash].pages ++ [⟨2, 0, 0, (old s.flash : Int), rec0⟩], (old s.flash : Int), decide (s.flash[old s.flash].worn < 200)) := by
    unfold room blockAt; rw [List.getElem?_eq_getElem hol]; rfl
  generalize room s.flash = R at *
  have HR := Lib.hid hR; clear hR
  cases ho : (openB s.flash).2 with
  | true =>
    have HO := Lib.hid ho; clear ho
    go_enter Tryz.func84, Tryz.ntmps84
    go_wp2_with fail
    refine (l3Open_c _ s.flash _ (hF.ext (ext_alloc (ext_alloc (ext_refl _) _) _)) hn HP.out).mono ?_; rintro e1 w1 ⟨rfl, hx⟩
    rw [HO.out]
    obtain ⟨hc, hf, hz, hz1, hX⟩ := after2 hx
    have G := keep_ext hx (hg_new (b := w.heap.size + 1) (by simp))
    go_wp2_with fail
    refine bodyPost_ret (v := .tuple #[.slice (some ⟨w.heap.size + 1, 0, none⟩) 0 0, .int .i64 (openB s.flash).1, .bool true]) (by simp [results, Tryz.results84, go_sem]) rfl ⟨_, rfl, hX, .slice (some ⟨w.heap.size + 1, 0, none⟩) 0 0, ?_, ?_, ?_⟩
    · rw [HR.out, HO.out]; rfl
    · rw [HR.out, HO.out]; exact SRow.empty G (by omega)
    · rw [HR.out, HO.out]; simp
  | false =>
    have HO := Lib.hid ho; clear ho
    have hR2 := HR.out
    rw [HO.out] at hR2
    simp only [Bool.false_eq_true, if_false] at hR2
    subst hR2
    clear HR
    generalize hbo : old s.flash = bo at *
    obtain ⟨b, o, pv, rfl, hb, hpp, h0, h1⟩ := hF.at2 hol
    obtain ⟨pa, pcap, rfl⟩ := hpp.form
    have hb' : b < w.heap.size := hb
    have HBO := Lib.hid hbo; clear hbo
    generalize hrs : roomSteps s.flash s.flash[bo].pages = R at *
    have HR : Hid (([] : List Step) ++ roomSteps s.flash (s.flash[bo].pages.drop 0) = R) := Lib.hid hrs
    clear hrs
    go_enter Tryz.func84, Tryz.ntmps84
    go_wp2_with fail
    refine (l3Open_c _ s.flash _ (hF.ext (ext_alloc (ext_alloc (ext_refl _) _) _)) hn HP.out).mono ?_; rintro e1 w1 ⟨rfl, hx⟩
    rw [HO.out]
    obtain ⟨hc, hf, hz, hz1, hX⟩ := after2 hx
    have G := keep_ext hx (hg_new (b := w.heap.size + 1) (by simp))
    have G0 := keep_ext hx (hg_alloc (hg_new (b := w.heap.size) rfl))
    go_wp2_with fail
    refine (l3Old_c _ s.flash _ (hF.ext hX) hn HP.out).mono ?_; rintro e2 w2 ⟨rfl, hx2⟩
    rw [HBO.out]
    have X2 := ext_trans hX hx2
    replace G := keep_ext hx2 G
    replace G0 := keep_ext hx2 G0
    clear hc hf hX hx2 hz hz1
    go_wp2_with fail
    go_loopw [5, 9] (fun v y wr => ∃ (k : Nat) (acc : List Step), k ≤ 4 ∧ y = .int .i64 k ∧ SRow w.heap.size wr v acc ∧ acc.length ≤ k ∧ Ext w wr ∧ Hid (acc ++ roomSteps s.flash (s.flash[bo].pages.drop k) = R) ∧
      wr.heap[w.heap.size]? = some (.cells #[.slice (some ⟨b, o, none⟩) s.flash.length fc, .slice da s.disk.length dc] 31 (0, 0))) (fun _ y _ => 4 - (intOf y).toNat)
    case atStart => exact ⟨0, [], by omega, rfl, SRow.empty G (by omega), by simp, X2, HR, G0⟩
    case round =>
      clear G G0 X2 HR
      obtain ⟨k, acc, hk, rfl, hS, hal, hX, HR, G0⟩ := hrel
      obtain ⟨sa, scap, rfl⟩ := hS.form
      obtain ⟨g0, gf⟩ := cellsK G0
      have hs0 := heap_lt G0
      obtain ⟨hc, hf⟩ := bcell hX
      by_cases hlt : k < 4
      · have hkl : k < s.flash[bo].pages.length := by omega
        obtain ⟨b2, o2, rfl, hb2, e0, e1, e2, e3, e4⟩ := hpp.at5 hkl
        have hb2' : b2 < w.heap.size := hb2
        rw [roomSteps_drop _ _ _ hkl, ← List.append_assoc] at HR
        go_wp2_with fail
        refine (l3Live_c _ s.flash s.flash[bo].pages[k] _ (hF.ext (ext_alloc hX _)) hn HP.out).mono ?_; rintro e1 w1 ⟨rfl, hx⟩
        obtain ⟨hc1, hf1, hz1, hX1⟩ := after1 hx
        have X1 := ext_trans hX hX1
        have hS1 := hS.ext hX1
        have G1 := keep_ext hX1 G0
        have HS1 := Lib.hid hS1; clear hS1
        generalize hlv : liveP s.flash s.flash[bo].pages[k] = lv at *
        have HLV := Lib.hid hlv; clear hlv
        have hws := X1.size
        go_wp2_with (refine wpList_appStep rfl _ _ rfl rfl (HS1.out.ext (ext_alloc (ext_refl _) _)) (y := diskStepOf s.flash[bo].pages[k]) rfl (hg_new rfl) (by omega) (by simp; omega) (fun v' w' hS' hg => ?_))
        · refine ⟨⟨k + 1, acc ++ [diskStepOf s.flash[bo].pages[k]], by omega, by go_num, hS', by simp; omega, ext_grown (ext_alloc X1 _) (HS1.out.ext (ext_alloc (ext_refl _) _)) hg, Lib.hid ?_, keep_grown (hg_alloc G1) (by decide) (HS1.out.ext (ext_alloc (ext_refl _) _)) hg⟩, by simp [intOf]; omega⟩
          have hr := HR.out
          try simp only [beq_iff_eq, Bool.not_eq_true, beq_eq_false_iff_ne, ne_eq, bne_iff_ne, bne_eq_false_iff_eq, decide_eq_true_eq, decide_eq_false_iff_not] at *
          rw [roomOne, if_pos ⟨by rw [HLV.out]; assumption, by assumption⟩] at hr
          exact hr
        all_goals
          refine ⟨⟨k + 1, acc, by omega, by go_num, HS1.out, by omega, X1, Lib.hid ?_, G1⟩, by simp [intOf]; omega⟩
          have hr := HR.out
          try simp only [beq_iff_eq, Bool.not_eq_true, beq_eq_false_iff_ne, ne_eq, bne_iff_ne, bne_eq_false_iff_eq, decide_eq_true_eq, decide_eq_false_iff_not] at *
          rw [roomOne, if_neg (by rw [HLV.out]; simp [*]), List.append_nil] at hr
          exact hr
      · obtain rfl : k = 4 := by omega
        rw [List.drop_eq_nil_of_le (by omega)] at HR
        have hr : acc = R := by have := HR.out; simpa [roomSteps] using this
        subst hr
        clear HR
        go_wp2_with fail
        refine wp_region_sa hX hS [3, 4] [0, 1, 2, 5, 6, 7, 8, 9, 10, 11, 12, 3, 4, 13, 14, 15] [] [] (by kernel_rfl) (by kernel_rfl) ?late ?_
        case late => exact fun f hf => absurd hf List.not_mem_nil
        iterate 5
          refine Rob.y (v := ?_) rfl rfl (fun w1 hx hH => ?_) ?_; rotate_left
          · go_simp; first | done | rfl | exact (Bool.not_not _).symm
          simp only [Act.put, List.setIfInBounds_toArray, List.set_cons_succ, List.set_cons_zero]
        refine Rob.y (v := ?_) rfl rfl (fun w1 hx hH => ?_) ?_; rotate_left
        · (obtain ⟨k0, kf⟩ := cellsK (hx.keep hS (by decide) G0); obtain ⟨hcx, hfx⟩ := bcell hx.ext); go_simp; first | done | rfl
        simp only [Act.put, List.setIfInBounds_toArray, List.set_cons_succ, List.set_cons_zero]
        refine Rob.y (v := ?_) rfl rfl (fun w1 hx hH => ?_) ?_; rotate_left
        · go_simp; first | done | rfl | exact (Bool.not_not _).symm
        simp only [Act.put, List.setIfInBounds_toArray, List.set_cons_succ, List.set_cons_zero]
        refine Rob.y (v := ?_) rfl rfl (fun w1 hx hH => ?_) ?_; rotate_left
        · (obtain ⟨k0, kf⟩ := cellsK (hx.keep hS (by decide) G0); obtain ⟨hcx, hfx⟩ := bcell hx.ext); go_simp; first | done | rfl
        simp only [Act.put, List.setIfInBounds_toArray, List.set_cons_succ, List.set_cons_zero]
        refine Rob.y (v := ?_) rfl rfl (fun w1 hx hH => ?_) ?_; rotate_left
        · go_simp; first | done | rfl | exact (Bool.not_not _).symm
        simp only [Act.put, List.setIfInBounds_toArray, List.set_cons_succ, List.set_cons_zero]
        refine Rob.y (v := ?_) rfl rfl (fun w1 hx hH => ?_) ?_; rotate_left
        · (obtain ⟨k0, kf⟩ := cellsK (hx.keep hS (by decide) G0); obtain ⟨hcx, hfx⟩ := bcell hx.ext); go_simp; first | done | rfl
        simp only [Act.put, List.setIfInBounds_toArray, List.set_cons_succ, List.set_cons_zero]
        refine Rob.y (v := ?_) rfl rfl (fun w1 hx hH => ?_) ?_; rotate_left
        · go_simp; first | done | rfl | exact (Bool.not_not _).symm
        simp only [Act.put, List.setIfInBounds_toArray, List.set_cons_succ, List.set_cons_zero]
        refine Rob.al (.cells (stepC ⟨2, 0, 0, (bo : Int), rec0⟩).toArray 88 (0, 0)) (fun lo => .slice (some ⟨lo, 0, none⟩) 1 1) rfl rfl rfl (fun _ _ h hx => h.stab hx) (fun w1 => by go_simp; rfl) (fun lo3 hi3 hlo3 hhi3 => ?_)
        simp only [Act.put, List.setIfInBounds_toArray, List.set_cons_succ, List.set_cons_zero]
        refine Rob.app 64 (stepC ⟨2, 0, 0, (bo : Int), rec0⟩) 1 rfl rfl rfl rfl rfl rfl Tryz.underlying57 (by kernel_rfl) (by omega) rfl rfl (by simp [Value.oneCell']) (by simp [maxLen]; omega) (by omega) hX.size (by omega) rfl hS hlo3 rfl (fun lo4 hi4 v4 hlo4 => ?_)
        simp only [Act.put, List.setIfInBounds_toArray, List.set_cons_succ, List.set_cons_zero]
        iterate 3
          refine Rob.y (v := ?_) rfl rfl (fun w1 hx hH => ?_) ?_; rotate_left
          · go_simp; first | done | rfl | exact (Bool.not_not _).symm
          simp only [Act.put, List.setIfInBounds_toArray, List.set_cons_succ, List.set_cons_zero]
        refine fin_nil (fun w2 hx2 _ => ?_)
        obtain ⟨⟨hSA, -⟩, hO⟩ := hx2
        have hO2 : SRow w.heap.size w2 v4 (acc ++ [⟨2, 0, 0, (bo : Int), rec0⟩]) := by
          show w2.ownsRow _ _ _ _ _ _
          rw [List.length_append, List.flatMap_append]; simpa using hO
        clear hO
        have HO2 := Lib.hid hO2; clear hO2
        go_wp2_with fail
        refine bodyPost_ret (v := .tuple #[v4, .int .i64 bo, .bool (decide (s.flash[bo].worn < 200))]) (by simp [results, Tryz.results84, go_sem]) rfl ⟨_, rfl, hSA.ext, v4, rfl, HO2.out, by simp; omega⟩

theorem foldl_inv {α σ : Type} (g : σ → α → σ) (I : σ → Prop) : ∀ (xs : List α) (s : σ), I s → (∀ s x, x ∈ xs → I s → I (g s x)) → I (xs.foldl g s)
  | [], s, h, _ => h
  | x :: xs, s, h, hs => foldl_inv g I xs _ (hs s x (by simp) h) fun s y hy => hs s y (by simp [hy])
theorem most_bd {ps : List Page} (h : ∀ p ∈ ps, pageOkB p = true) : 0 ≤ most ps ∧ most ps ≤ 600 :=
  foldl_inv mostStep (fun n => 0 ≤ n ∧ n ≤ 600) ps 0 (by omega) fun s p hp hs => by have := pageOk_seq (h p hp); unfold mostStep; split <;> omega
theorem maxSeq_bd {f : List Block} (h : flashOkB f = true) : 0 ≤ maxSeq f ∧ maxSeq f ≤ 600 :=
  foldl_inv nextStep (fun n => 0 ≤ n ∧ n ≤ 600) f 0 (by omega) fun s b hb hs => by have := most_bd (flashOk_block h hb).2.2.2; unfold nextStep; split <;> omega

/-- a call that hands back a new row of steps -/
def RetS (w : World) (xs : List Step) : Ending → World → Prop := RetP w fun v w' => SRow w.heap.size w' v xs ∧ xs.length ≤ 7
/-- the row of steps, whatever it was made since, but since base -/
def SΦ (base : Nat) (xs : List Step) (v : Value) (w' : World) : Prop := (∃ b, base ≤ b ∧ SRow b w' v xs) ∧ xs.length ≤ 7
theorem SΦ.ext {base : Nat} {xs : List Step} {v : Value} {w w' : World} (h : SΦ base xs v w) (hx : Ext w w') : SΦ base xs v w' := ⟨h.1.imp fun b hb => ⟨hb.1, hb.2.ext hx⟩, h.2⟩
theorem RetS.weak {base : Nat} {xs : List Step} {w1 w' : World} {e : Ending} (h : RetS w1 xs e w') (hb : base ≤ w1.heap.size) : RetP w1 (SΦ base xs) e w' := by
  obtain ⟨v, he, hx, hS, hl⟩ := h; exact ⟨v, he, hx, ⟨_, hb, hS⟩, hl⟩
theorem SRow.base {b b' : Nat} {w : World} {v : Value} {xs : List Step} (h : SRow b w v xs) (hb : b' ≤ b) : SRow b' w v xs :=
  ⟨h.1, h.2.imp id fun ⟨g, cap, cur, hv, hg, hr⟩ => ⟨g, cap, cur, hv, Nat.le_trans hb hg, hr⟩⟩

theorem room_len {f : List Block} (h : (room f).1.length ≤ 5) (kind addr val : Int) : (writeSteps f kind addr val).length ≤ 6 := by
  unfold writeSteps; split
  · simp; omega
  · simp

theorem roomSteps_len (f : List Block) : ∀ ps : List Page, (roomSteps f ps).length ≤ ps.length
  | [] => by simp [roomSteps]
  | p :: ps => by
    have := roomSteps_len f ps
    have h1 : (roomOne f p).length ≤ 1 := by unfold roomOne; split <;> simp
    simp only [roomSteps, List.flatMap_cons, List.length_append, List.length_cons] at *
    omega
theorem room_le {f : List Block} (h : flashOkB f = true) : (room f).1.length ≤ 5 := by
  unfold room
  split
  · simp
  · have h4 := flashOk_len h
    have hl := old_lt (f := f) (by omega)
    have hb := (flashOk_block h (List.getElem_mem hl)).1
    have := roomSteps_len f (blockAt f (old f)).pages
    unfold blockAt at this ⊢
    rw [List.getElem?_eq_getElem hl] at this ⊢
    simp at this ⊢
    omega
theorem write_le {f : List Block} (h : flashOkB f = true) (kind addr val : Int) : (writeSteps f kind addr val).length ≤ 6 := room_len (room_le h) kind addr val

set_option maxHeartbeats 2000000 in
theorem l12Write_c (fv dv : Value) (s : Store) (kind addr val : Int) (w : World) (h : StoreV w fv dv s) (hok : flashOkB s.flash = true) :
    Calls Tryz.prog 56 #[.agg #[fv, dv], .int .i64 kind, .int .i64 addr, .int .i64 val] w (RetS w (writeSteps s.flash kind addr val)) := by
  have hn : s.flash.length ≤ 1048576 := by have := flashOk_len hok; omega
  have HP := Lib.hid (pages_short hok)
  have HO := Lib.hid hok
  have hms := maxSeq_bd hok
  have hsv := h
  obtain ⟨hF, hD⟩ := h
  obtain ⟨fa, fc, rfl⟩ := hF.form
  obtain ⟨da, dc, rfl⟩ := hD.form
  have HW : Hid (writeSteps s.flash kind addr val = if (room s.flash).2.2 && recOkB ⟨kind, next s.flash, addr, val⟩ then (room s.flash).1 ++ [⟨3, 0, 0, (room s.flash).2.1, ⟨kind, next s.flash, addr, val⟩⟩] else []) := Lib.hid rfl
  have HL := Lib.hid (fun h => room_len (f := s.flash) h kind addr val)
  generalize writeSteps s.flash kind addr val = WS at *
  clear hok
  go_enter Tryz.func56, Tryz.ntmps56
  go_wp2_with fail
  refine (l3Next_c _ s.flash _ (hF.ext (ext_alloc (ext_refl _) _)) hn HP.out (by omega)).mono ?_; rintro e1 w1 ⟨rfl, hx⟩
  obtain ⟨hc, hf, hz, hX⟩ := after1 hx
  have G0 := keep_ext hx (hg_new (b := w.heap.size) rfl)
  generalize next s.flash = nx at *
  go_wp2_with fail
  refine (l12Room_c _ _ s _ (hsv.ext (ext_alloc hX _)) HO.out).mono ?_; rintro e2 w2 ⟨v2, rfl, hx2, sv, rfl, hS, hsl⟩
  generalize room s.flash = R at *
  obtain ⟨rs, rb, ro⟩ := R
  obtain ⟨sa, scap, rfl⟩ := hS.form
  have X2 : Ext w w2 := ext_trans (ext_alloc hX _) hx2
  replace G0 := keep_ext hx2 (hg_alloc G0)
  have G9 := keep_ext hx2 (hg_new (b := w1.heap.size) rfl)
  have hL := HL.out hsl
  dsimp only at *
  have HS := Lib.hid (hS.base (b' := w.heap.size) (by have := hX.size; simp; omega))
  clear hS hc hf
  obtain ⟨g0, gf0⟩ := cellsK G0
  obtain ⟨g9, gf9⟩ := cellsK G9
  have l0 := heap_lt G0
  have l9 := heap_lt G9
  generalize hrok : recOkB ⟨kind, nx, addr, val⟩ = rok at *
  have HRO := Lib.hid hrok; clear hrok
  go_wp2_with (first
    | (go_at_call 85; (with_reducible refine (specRecOk_c ⟨kind, nx, addr, val⟩ _).mono ?_); rintro e3 w3 ⟨rfl, hx3⟩; rw [HRO.out]; have X3 := ext_trans X2 hx3; replace HS := Lib.hid (HS.out.ext hx3); replace G0 := keep_ext hx3 G0; replace G9 := keep_ext hx3 G9; clear g0 gf0 g9 gf9; obtain ⟨g0, gf0⟩ := cellsK G0; obtain ⟨g9, gf9⟩ := cellsK G9)
    | (refine wpList_appStep rfl _ _ rfl rfl (HS.out.ext (ext_alloc (ext_refl _) _)) (y := ⟨3, 0, 0, rb, ⟨kind, nx, addr, val⟩⟩) rfl (hg_new rfl) (by omega) (by have := X3.size; simp; omega) (fun v' w' hS' hg => ?_)))
  · have hw : WS = [] := by
      have hk : rok = false := by simpa using ‹(!rok) = true›
      rw [HW.out, if_neg (by simp [hk])]
    go_ret
    subst hw
    exact ⟨_, rfl, ext_alloc X3 _, SRow.empty (hg_new rfl) (by have := X3.size; omega), by simp⟩
  · have hk : rok = true := by simpa using ‹(!rok) = false›
    have hw : WS = rs ++ [⟨3, 0, 0, rb, ⟨kind, nx, addr, val⟩⟩] := by rw [HW.out, if_pos (by simp [*])]
    go_ret
    exact ⟨_, rfl, ext_grown (ext_alloc X3 _) (HS.out.ext (ext_alloc (ext_refl _) _)) hg, by rw [hw]; exact hS', by omega⟩
  · have hw : WS = [] := by rw [HW.out, if_neg (by simp [*])]
    go_ret
    subst hw
    exact ⟨_, rfl, ext_alloc X2 _, SRow.empty (hg_new rfl) (by have := X2.size; omega), by simp⟩

def flushSteps (s : Store) (n : Nat) : List Step :=
  if dirtyB s ((n : Int) + 1) then (if writeSteps s.flash 2 ((n : Int) + 1) (readN s n) = [] then [] else ⟨1, (n : Int) + 1, readN s n, 0, rec0⟩ :: writeSteps s.flash 2 ((n : Int) + 1) (readN s n)) else []
def addrStep (g : Nat → List Step) (addr : Int) : List Step := if inB addr 1 6 then g (addr - 1).toNat else []
def fillSteps (s : Store) (n : Nat) : List Step := if 0 < (last s.flash ((n : Int) + 1)).seq then [] else writeSteps s.flash 2 ((n : Int) + 1) (s.disk.getD n 0)
def putSteps (s : Store) (addr val : Int) : List Step := writeSteps s.flash 1 addr val
def playSteps (s : Store) (e : Event) : List Step :=
  if e.kind = 1 then putSteps s e.a e.b else if e.kind = 2 then addrStep (flushSteps s) e.a else if e.kind = 3 then addrStep (fillSteps s) e.a else []

/-- a store that the steps may be asked of -/
structure StoreP (s : Store) : Prop where
  flash : flashOkB s.flash = true
  disk : s.disk.length = 6
theorem StoreP.short {s : Store} (h : StoreP s) : s.flash.length ≤ 1048576 := by have := flashOk_len h.flash; omega

set_option maxHeartbeats 2000000 in
theorem l12Flush_c (fv dv : Value) (s : Store) (addr : Int) (w : World) (h : StoreV w fv dv s) (hok : StoreP s) :
    Calls Tryz.prog 106 #[.agg #[fv, dv], .int .i64 addr] w (RetS w (addrStep (flushSteps s) addr)) := by
  have hn := hok.short
  have HP := Lib.hid (pages_short hok.flash)
  have HO := Lib.hid hok.flash
  have hd6 := Lib.hid hok.disk
  have hsv := h
  obtain ⟨hF, hD⟩ := h
  obtain ⟨fa, fc, rfl⟩ := hF.form
  obtain ⟨da, dc, rfl⟩ := hD.form
  clear hok
  cases hin : inB addr 1 6 with
  | false =>
    have hq : addrStep (flushSteps s) addr = [] := by unfold addrStep; rw [hin]; rfl
    rw [hq]
    have HI := Lib.hid hin; clear hin hq
    go_enter Tryz.func106, Tryz.ntmps106
    go_wp2_with (go_at_call 55; refine (l6In_c _ _ _ _).mono ?_; rintro e1 w1 ⟨rfl, rfl⟩; rw [HI.out])
    go_ret
    exact ⟨_, rfl, by go_grown, SRow.empty (hg_new (by simp)) (by simp), by simp⟩
  | true =>
    obtain ⟨n, rfl, hn6⟩ : ∃ n : Nat, addr = (n : Int) + 1 ∧ n < 6 := ⟨(addr - 1).toNat, by have := inB_iff.1 hin; omega, by have := inB_iff.1 hin; omega⟩
    have hq : addrStep (flushSteps s) ((n : Int) + 1) = flushSteps s n := by unfold addrStep; rw [hin]; simp
    rw [hq]
    have HI := Lib.hid hin; clear hin hq
    have hq : flushSteps s n = if dirtyB s ((n : Int) + 1) then (if writeSteps s.flash 2 ((n : Int) + 1) (readN s n) = [] then [] else ⟨1, (n : Int) + 1, readN s n, 0, rec0⟩ :: writeSteps s.flash 2 ((n : Int) + 1) (readN s n)) else [] := rfl
    generalize flushSteps s n = FS at *
    have HQ := Lib.hid hq; clear hq
    go_enter Tryz.func106, Tryz.ntmps106
    go_wp2_with (go_at_call 55; refine (l6In_c _ _ _ _).mono ?_; rintro e1 w1 ⟨rfl, rfl⟩; rw [HI.out])
    refine (l11Dirty_c _ _ s _ _ (hsv.ext (ext_alloc (ext_refl _) _)) hn HP.out).mono ?_; rintro e1 w1 ⟨rfl, hx1⟩
    obtain ⟨hc1, hf1, hz1, X1⟩ := after1 hx1
    generalize hdb : dirtyB s ((n : Int) + 1) = db at *
    have HD := Lib.hid hdb; clear hdb
    cases db with
    | false =>
      go_wp2_with fail
      go_ret
      have hq : FS = [] := by rw [HQ.out]; rfl
      subst hq
      exact ⟨_, rfl, ext_alloc X1 _, SRow.empty (hg_new rfl) (by omega), by simp⟩
    | true =>
      have G1 := keep_ext hx1 (hg_new (b := w.heap.size) rfl)
      go_wp2_with fail
      refine (l11Read_c _ _ s n _ (hsv.ext X1) hn HP.out (by have := hd6.out; omega) (by have := hd6.out; omega)).mono ?_; rintro e2 w2 ⟨rfl, hx2⟩
      have X2 := ext_trans X1 hx2
      have G2 := keep_ext hx2 G1
      have l2 := heap_lt G2
      obtain ⟨g2, gf2⟩ := cellsK G2
      clear hc1 hf1 G1
      generalize readN s n = rv at *
      go_wp2_with fail
      refine (l12Write_c _ _ s 2 _ rv _ (hsv.ext X2) HO.out).mono ?_; rintro e3 w3 ⟨sv, rfl, hx3, hS, hsl⟩
      have X3 := ext_trans X2 hx3
      have hw6 := write_le HO.out 2 ((n : Int) + 1) rv
      generalize writeSteps s.flash 2 ((n : Int) + 1) rv = WS at *
      obtain ⟨sa, scap, rfl⟩ := hS.form
      have HS := Lib.hid (hS.base (b' := w.heap.size) X2.size)
      clear hS g2 gf2
      have hz3 := X3.size
      by_cases hw0 : WS = []
      · subst hw0
        go_wp2_with fail
        go_ret
        have hq : FS = [] := by rw [HQ.out]; rfl
        subst hq
        exact ⟨_, rfl, X3, HS.out, by simp⟩
      · have hln : (((WS.length : Nat) : Int) == 0) = false := by simp [hw0]
        have HW := Lib.hid hw0; clear hw0
        go_wp2_with (refine wpList_appSteps rfl _ _ rfl (v := .slice (some ⟨w3.heap.size, 0, none⟩) 1 1) (xs := [⟨1, (n : Int) + 1, rv, 0, rec0⟩]) rfl (SRow.one (hg_new rfl) hz3) rfl (HS.out.ext (ext_alloc (ext_refl _) _)) HW.out (by simp; omega) (by simp; omega) (fun v' w' hS' hg => ?_))
        go_ret
        have hq : FS = ⟨1, (n : Int) + 1, rv, 0, rec0⟩ :: WS := by rw [HQ.out, if_pos trivial, if_neg HW.out]
        subst hq
        refine ⟨_, rfl, ext_grown (ext_alloc X3 _) (v := .slice (some ⟨w3.heap.size, 0, none⟩) 1 1) (SRow.one (y := ⟨1, (n : Int) + 1, rv, 0, rec0⟩) (hg_new rfl) hz3) hg, hS', ?_⟩
        simp; omega

set_option maxHeartbeats 2000000 in
theorem l12Fill_c (fv dv : Value) (s : Store) (addr : Int) (w : World) (h : StoreV w fv dv s) (hok : StoreP s) :
    Calls Tryz.prog 107 #[.agg #[fv, dv], .int .i64 addr] w (RetS w (addrStep (fillSteps s) addr)) := by
  have hn := hok.short
  have HP := Lib.hid (pages_short hok.flash)
  have HO := Lib.hid hok.flash
  have hd6 := Lib.hid hok.disk
  have hsv := h
  obtain ⟨hF, hD⟩ := h
  obtain ⟨fa, fc, rfl⟩ := hF.form
  obtain ⟨da, dc, rfl⟩ := hD.form
  clear hok
  cases hin : inB addr 1 6 with
  | false =>
    have hq : addrStep (fillSteps s) addr = [] := by unfold addrStep; rw [hin]; rfl
    rw [hq]
    have HI := Lib.hid hin; clear hin hq
    go_enter Tryz.func107, Tryz.ntmps107
    go_wp2_with (go_at_call 55; refine (l6In_c _ _ _ _).mono ?_; rintro e1 w1 ⟨rfl, rfl⟩; rw [HI.out])
    go_ret
    exact ⟨_, rfl, by go_grown, SRow.empty (hg_new (by simp)) (by simp), by simp⟩
  | true =>
    obtain ⟨n, rfl, hn6⟩ : ∃ n : Nat, addr = (n : Int) + 1 ∧ n < 6 := ⟨(addr - 1).toNat, by have := inB_iff.1 hin; omega, by have := inB_iff.1 hin; omega⟩
    have hq : addrStep (fillSteps s) ((n : Int) + 1) = fillSteps s n := by unfold addrStep; rw [hin]; simp
    rw [hq]
    have HI := Lib.hid hin; clear hin hq
    have hil : n < s.disk.length := by have := hd6.out; omega
    have hq : fillSteps s n = if 0 < (last s.flash ((n : Int) + 1)).seq then [] else writeSteps s.flash 2 ((n : Int) + 1) s.disk[n] := by
      unfold fillSteps; rw [List.getD_eq_getElem?_getD, List.getElem?_eq_getElem hil]; rfl
    obtain ⟨b, o, rfl, hb, e0⟩ := hD.at1 hil
    have hb' : b < w.heap.size := hb
    generalize fillSteps s n = FS at *
    have HQ := Lib.hid hq; clear hq
    go_enter Tryz.func107, Tryz.ntmps107
    go_wp2_with (go_at_call 55; refine (l6In_c _ _ _ _).mono ?_; rintro e1 w1 ⟨rfl, rfl⟩; rw [HI.out])
    refine (l3Last_c _ s.flash ((n : Int) + 1) _ (hF.ext (ext_alloc (ext_refl _) _)) hn HP.out).mono ?_; rintro e1 w1 ⟨rfl, hx1⟩
    obtain ⟨hc1, hf1, hz1, X1⟩ := after1 hx1
    have G1 := keep_ext hx1 (hg_new (b := w.heap.size) rfl)
    generalize last s.flash ((n : Int) + 1) = r at *
    by_cases hr : 0 < r.seq
    · go_wp2_with fail
      go_ret
      have hq : FS = [] := by rw [HQ.out, if_pos hr]
      subst hq
      exact ⟨_, rfl, by go_grown, SRow.empty (hg_new (by simp)) (by have := X1.size; omega), by simp⟩
    · have hrf : decide (0 < r.seq) = false := by simpa using hr
      have hbw : b < w1.heap.size := Nat.lt_trans hb' hz1
      have hwn : IntKind.i64.wrap (n : Int) = n := IntWalk.i64_in _ (by omega)
      have hwn2 : (n : Int) < s.disk.length := by omega
      have XA : ∀ {w' : World} {ob : Obj}, Ext (w1.alloc ob) w' → Ext w w' := fun h => ext_trans (ext_alloc X1 _) h
      go_wp2_with fail
      refine wp_region_ext [8] [0, 1, 2, 3, 4, 5, 6, 7, 8, 9] [] [] (by kernel_rfl) (by kernel_rfl) ?late ?_
      case late => exact fun f hf => absurd hf List.not_mem_nil
      refine Rob.y (v := ?_) rfl rfl (fun w1 hx hH => ?_) ?_; rotate_left
      · (obtain ⟨hcx, hfx⟩ := bcell hx); go_simp; first | done | rfl
      simp only [Act.put, List.setIfInBounds_toArray, List.set_cons_succ, List.set_cons_zero]
      iterate 2
        refine Rob.y (v := ?_) rfl rfl (fun w1 hx hH => ?_) ?_; rotate_left
        · go_simp; first | done | rfl | exact (Bool.not_not _).symm
        simp only [Act.put, List.setIfInBounds_toArray, List.set_cons_succ, List.set_cons_zero]
      refine Rob.y (v := ?_) rfl rfl (fun w1 hx hH => ?_) ?_; rotate_left
      · (obtain ⟨hcx, hfx⟩ := bcell hx); go_simp; first | done | rfl
      simp only [Act.put, List.setIfInBounds_toArray, List.set_cons_succ, List.set_cons_zero]
      iterate 2
        refine Rob.y (v := ?_) rfl rfl (fun w1 hx hH => ?_) ?_; rotate_left
        · go_simp; first | done | rfl | exact (Bool.not_not _).symm
        simp only [Act.put, List.setIfInBounds_toArray, List.set_cons_succ, List.set_cons_zero]
      iterate 2
        refine Rob.y (v := ?_) rfl rfl (fun w1 hx hH => ?_) ?_; rotate_left
        · (obtain ⟨hcx, hfx⟩ := bcell hx); go_simp; first | done | rfl
        simp only [Act.put, List.setIfInBounds_toArray, List.set_cons_succ, List.set_cons_zero]
      refine Rob.c ((fun lo hi v w' => SΦ w.heap.size (writeSteps s.flash 2 ((n : Int) + 1) s.disk[n]) v w')) rfl rfl rfl (fun _ _ => ext_trans) (fun _ _ _ _ _ => fun h hx => h.ext hx) (fun w1 hx hH => ?_) (fun lo8 hi8 v8 hlo8 hhi8 hv8 => ?_)
      · unfold RunTo; go_simp; exact (((l12Write_c _ _ s 2 _ s.disk[n] _ (hsv.ext (XA hx)) HO.out).mono fun e w' h => RetS.weak h (XA hx).size)).mono fun e w' h => h.to
      simp only [Act.put, List.setIfInBounds_toArray, List.set_cons_succ, List.set_cons_zero]
      refine Rob.y (v := ?_) rfl rfl (fun w1 hx hH => ?_) ?_; rotate_left
      · go_simp; first | done | rfl | exact (Bool.not_not _).symm
      simp only [Act.put, List.setIfInBounds_toArray, List.set_cons_succ, List.set_cons_zero]
      refine fin_nil (fun w2 hx2 _ => ?_)
      obtain ⟨hE, ⟨bb, hbb, hS⟩, hsl⟩ := hx2
      have HS := Lib.hid (hS.base hbb); clear hS
      have X2 := XA hE
      go_wp2_with fail
      go_ret
      have hq : FS = writeSteps s.flash 2 ((n : Int) + 1) s.disk[n] := by rw [HQ.out, if_neg (by omega)]
      subst hq
      exact ⟨_, rfl, X2, HS.out, hsl⟩
end Go.Bu

set_option linter.unusedVariables false
set_option linter.unusedSimpArgs false
namespace Go.Bu
open Go Go.RowKit Go.Plan Go.Proofs

theorem ext_of1 {w w' : World} {a : Obj} (h : Ext (w.alloc a) w') : Ext w w' := ext_trans (ext_alloc (ext_refl _) _) h
theorem ext_of2 {w w' : World} {a b : Obj} (h : Ext ((w.alloc a).alloc b) w') : Ext w w' := ext_trans (ext_alloc (ext_alloc (ext_refl _) _) _) h
theorem size_of1 {w : World} {a : Obj} : w.heap.size ≤ (w.alloc a).heap.size := by simp
theorem size_of2 {w : World} {a b : Obj} : w.heap.size ≤ ((w.alloc a).alloc b).heap.size := by simp; omega
theorem orderB_flash {s : Store} (h : storeOkB s = true) : StoreP s := ⟨storeOk_flash h, storeOk_disk h⟩

set_option maxHeartbeats 1000000 in
theorem l21Steps_c (fv dv : Value) (s : Store) (e : Event) (w : World) (h : StoreV w fv dv s) (hok : StoreP s) :
    Calls Tryz.prog 71 #[.agg #[fv, dv], eventA e] w (RetS w (playSteps s e)) := by
  have HO := Lib.hid hok; clear hok
  have hsv := h
  obtain ⟨hF, hD⟩ := h
  obtain ⟨fa, fc, rfl⟩ := hF.form
  obtain ⟨da, dc, rfl⟩ := hD.form
  obtain ⟨k, ea, eb, ec, et⟩ := e
  have hw : ∀ a b : Obj, StoreV ((w.alloc a).alloc b) (.slice fa s.flash.length fc) (.slice da s.disk.length dc) s := fun a b => hsv.ext (ext_alloc (ext_alloc (ext_refl _) _) _)
  have HV := Lib.hid hw; clear hw
  by_cases h1 : k = 1
  · subst h1
    have hq : playSteps s ⟨1, ea, eb, ec, et⟩ = writeSteps s.flash 1 ea eb := rfl
    rw [hq]; clear hq
    go_enter Tryz.func71, Tryz.ntmps71
    go_wp2_with fail
    refine (l12Write_c _ _ s 1 ea eb _ (HV.out _ _) HO.out.flash).mono ?_; rintro e1 w1 ⟨v1, rfl, hx1, hS, hl⟩
    go_wp2_with fail
    go_ret
    exact ⟨_, rfl, ext_of2 hx1, hS.base size_of2, hl⟩
  by_cases h2 : k = 2
  · subst h2
    have hq : playSteps s ⟨2, ea, eb, ec, et⟩ = addrStep (flushSteps s) ea := rfl
    rw [hq]; clear hq
    go_enter Tryz.func71, Tryz.ntmps71
    go_wp2_with fail
    refine (l12Flush_c _ _ s ea _ (HV.out _ _) HO.out).mono ?_; rintro e1 w1 ⟨v1, rfl, hx1, hS, hl⟩
    go_wp2_with fail
    go_ret
    exact ⟨_, rfl, ext_of2 hx1, hS.base size_of2, hl⟩
  by_cases h3 : k = 3
  · subst h3
    have hq : playSteps s ⟨3, ea, eb, ec, et⟩ = addrStep (fillSteps s) ea := rfl
    rw [hq]; clear hq
    go_enter Tryz.func71, Tryz.ntmps71
    go_wp2_with fail
    refine (l12Fill_c _ _ s ea _ (HV.out _ _) HO.out).mono ?_; rintro e1 w1 ⟨v1, rfl, hx1, hS, hl⟩
    go_wp2_with fail
    go_ret
    exact ⟨_, rfl, ext_of2 hx1, hS.base size_of2, hl⟩
  · have hq : playSteps s ⟨k, ea, eb, ec, et⟩ = [] := by unfold playSteps; rw [if_neg h1, if_neg h2, if_neg h3]
    rw [hq]; clear hq
    have b1 : (k == 1) = false := by simpa using h1
    have b2 : (k == 2) = false := by simpa using h2
    have b3 : (k == 3) = false := by simpa using h3
    clear h1 h2 h3
    go_enter Tryz.func71, Tryz.ntmps71
    go_wp2_with fail
    go_ret
    exact ⟨_, rfl, by go_grown, SRow.empty (hg_new (by simp)) (by omega), by simp⟩

-- (not in this seat: function spec.PlaySteps)
end Go.Bu

set_option linter.unusedVariables false
set_option linter.unusedSimpArgs false
namespace Go.Bu
open Go Go.RowKit Go.Plan Go.Proofs

theorem any_drop {α : Type} (q : α → Bool) (xs : List α) (k : Nat) (h : k < xs.length) : (xs.drop k).any q = (q xs[k] || (xs.drop (k + 1)).any q) := by
  rw [List.drop_eq_getElem_cons h, List.any_cons]

def isSeq (n : Int) (p : Page) : Bool := p.state == 1 && p.r.seq == n
def seqUsed (f : List Block) (n : Int) : Bool := f.any fun b => b.pages.any (isSeq n)

set_option maxHeartbeats 1000000 in
theorem l2Seq_c (v : Value) (f : List Block) (n : Int) (w : World) (h : Flash (Old w) w v f) (hn : f.length ≤ 1048576) (hp : ∀ b ∈ f, b.pages.length ≤ 1048576) :
    Calls Tryz.prog 137 #[v, .int .i64 n] w (Ret w (.bool (seqUsed f n))) := by
  obtain ⟨a, cap, rfl⟩ := h.form
  obtain ⟨A, hA⟩ : ∃ A, seqUsed f n = A := ⟨_, rfl⟩
  rw [hA]
  unfold seqUsed at hA
  have HP := Lib.hid hp; clear hp
  have HA := Lib.hid hA; clear hA
  go_enter Tryz.func137, Tryz.ntmps137
  go_wp2
  go_loop [5] (fun y => ∃ (i : Nat), i ≤ f.length ∧ y = .int .i64 i ∧ Hid ((f.drop i).any (fun b => b.pages.any (isSeq n)) = A)) (fun y => f.length - (intOf y).toNat)
  case atStart => exact ⟨0, by omega, rfl, HA⟩
  case round =>
    obtain ⟨i, hi, rfl, HR⟩ := hrel
    by_cases hlt : i < f.length
    · obtain ⟨b, o, pv, rfl, hb, hpp, h0, h1⟩ := h.at2 hlt
      obtain ⟨pa, pcap, rfl⟩ := hpp.form
      have hpl := HP.out f[i] (List.getElem_mem _)
      rw [any_drop _ _ _ hlt] at HR
      go_wp2
      go_loop [6] (fun y => ∃ (k : Nat), k ≤ f[i].pages.length ∧ y = .int .i64 k ∧ Hid (((f[i].pages.drop k).any (isSeq n) || (f.drop (i + 1)).any (fun b => b.pages.any (isSeq n))) = A)) (fun y => f[i].pages.length - (intOf y).toNat)
      case atStart => exact ⟨0, by omega, rfl, HR⟩
      case round =>
        clear HR
        obtain ⟨k, hk, rfl, HR⟩ := hrel
        by_cases hlk : k < f[i].pages.length
        · obtain ⟨b2, o2, rfl, hb2, e0, e1, e2, e3, e4⟩ := hpp.at5 hlk
          rw [any_drop _ _ _ hlk] at HR
          have hq : isSeq n f[i].pages[k] = (f[i].pages[k].state == 1 && f[i].pages[k].r.seq == n) := rfl
          have HQ := Lib.hid hq; clear hq
          go_wp2
          all_goals try
            go_ret
            have hr := HR.out
            try simp only [beq_iff_eq, Bool.not_eq_true, beq_eq_false_iff_ne, ne_eq, bne_iff_ne, bne_eq_false_iff_eq, decide_eq_true_eq, decide_eq_false_iff_not] at *
            rw [HQ.out, show (f[i].pages[k].state == 1 && f[i].pages[k].r.seq == n) = true from by simp [*]] at hr
            exact ⟨by rw [← hr]; simp, ext_refl _⟩
          all_goals
            have hr := HR.out
            try simp only [beq_iff_eq, Bool.not_eq_true, beq_eq_false_iff_ne, ne_eq, bne_iff_ne, bne_eq_false_iff_eq, decide_eq_true_eq, decide_eq_false_iff_not] at *
            rw [HQ.out, show (f[i].pages[k].state == 1 && f[i].pages[k].r.seq == n) = false from by simp [*], Bool.false_or] at hr
            exact ⟨⟨k + 1, by omega, by go_num, Lib.hid hr⟩, by simp [intOf]; omega⟩
        · obtain rfl : k = f[i].pages.length := by omega
          rw [List.drop_length, List.any_nil, Bool.false_or] at HR
          go_wp2
          exact ⟨⟨i + 1, by omega, by go_num, HR⟩, by simp [intOf]; omega⟩
    · obtain rfl : i = f.length := by omega
      rw [List.drop_length, List.any_nil] at HR
      have hr := HR.out
      subst hr
      go_wp2
      go_ret
      exact ⟨rfl, ext_refl _⟩

def blank (st : Int) : Page := ⟨st, rec0⟩
def tornSt (torn : Bool) : Int := if torn then 2 else 0
def wipeF (f : List Block) (i : Nat) (torn : Bool) : List Block :=
  if 200 ≤ (blockAt f i).worn then f else f.set i ⟨List.replicate 4 (blank (tornSt torn)), (blockAt f i).worn + 1⟩
def wipeOk (f : List Block) (i : Nat) : Bool := !decide (200 ≤ (blockAt f i).worn)

theorem blockAt_get {f : List Block} {i : Nat} (h : i < f.length) : blockAt f i = f[i] := by unfold blockAt; rw [List.getElem?_eq_getElem h]; rfl

/-- what a call leaves that writes into its own store in place -/
def RetF (c : SC) (w : World) (v : Value) (f : List Block) (e : Ending) (w' : World) : Prop := e = .returned v ∧ Chg c.fl w w' ∧ FlashAt c w' f

theorem Chg.alloc' {L : List Nat} {a b : World} (h : Chg L a b) (o : Obj) : Chg L a (b.alloc o) := h.alloc o
theorem FlashAt.ext {c : SC} {w w' : World} {f : List Block} (h : FlashAt c w f) (hx : Ext w w') : FlashAt c w' f := h.keep fun b hb => hx.block b (h.lt b hb)

theorem rep_set (x : Page) (ps : List Page) (k : Nat) (h : ps.length = 4) (hk : k < 4) : (List.replicate k x ++ ps.drop k).set k x = List.replicate (k + 1) x ++ ps.drop (k + 1) := by
  rw [List.set_append, if_neg (by simp), List.length_replicate, Nat.sub_self, List.drop_eq_getElem_cons (by omega), List.set_cons_zero, List.replicate_succ', List.append_assoc]; rfl

set_option maxRecDepth 20000 in
set_option maxHeartbeats 2000000 in
theorem l2Wipe_c (c : SC) (f : List Block) (i : Nat) (torn : Bool) (w : World) (h : FlashAt c w f) (hnd : c.fl.Nodup) (hi : i < f.length) (h4 : f[i].pages.length = 4) (hw : 0 ≤ f[i].worn ∧ f[i].worn ≤ 1000) (hn : f.length ≤ 1048576) :
    Calls Tryz.prog 121 #[c.F.v f.length, .int .i64 i, .bool torn] w (RetF c w (.tuple #[c.F.v f.length, .bool (wipeOk f i)]) (wipeF f i torn)) := by
  obtain ⟨hw0, hw1⟩ := hw
  have hip : i < c.ps.length := by rw [h.len]; exact hi
  obtain ⟨p, hp⟩ : ∃ p, c.ps[i]? = some p := ⟨_, List.getElem?_eq_getElem hip⟩
  obtain ⟨t0, t1⟩ := h.two hi hp
  have hfz := h.row.frozen
  have hq : wipeF f i torn = if 200 ≤ f[i].worn then f else f.set i ⟨List.replicate 4 (blank (tornSt torn)), f[i].worn + 1⟩ := by unfold wipeF; rw [blockAt_get hi]
  have hq2 : wipeOk f i = !decide (200 ≤ f[i].worn) := by unfold wipeOk; rw [blockAt_get hi]
  have HQ := Lib.hid hq; have HQ2 := Lib.hid hq2; have HP := Lib.hid hp; have H4 := Lib.hid h4
  clear hq hq2 hp h4
  by_cases hw2 : 200 ≤ f[i].worn
  · go_enter Tryz.func121, Tryz.ntmps121
    go_wp2_with fail
    go_ret2
    rw [HQ2.out, HQ.out, if_pos hw2]
    exact ⟨by simp [hw2], Chg.refl _ _, h⟩
  · have hF1 := h.worn hnd hi HP.out (f[i].worn + 1)
    have HF1 := Lib.hid hF1; clear hF1
    have hC1 : Chg c.fl w (w.setCell ⟨c.F.b, c.F.o + i * 2 + 1, none⟩ (.int .i64 (f[i].worn + 1))) := (Chg.refl _ _).set (.inl (by simp [SC.fl])) _
    have hgi : ∀ x : Block, (f.set i x)[i]? = some x := fun x => List.getElem?_set_self hi
    have HGI := Lib.hid hgi; clear hgi
    have hpl : p.b ∈ c.fl := List.mem_cons_of_mem _ (List.mem_map.2 ⟨p, List.mem_of_getElem? HP.out, rfl⟩)
    cases torn
    all_goals
      go_enter Tryz.func121, Tryz.ntmps121
      go_wp2_with fail
    · go_loopw [9] (fun y wr => ∃ (k : Nat), k ≤ 4 ∧ y = .int .i64 k ∧ Chg c.fl w wr ∧ FlashAt c wr (f.set i ⟨List.replicate k (blank (tornSt false)) ++ f[i].pages.drop k, f[i].worn + 1⟩)) (fun y _ => 4 - (intOf y).toNat)
      case atStart => exact ⟨0, by omega, rfl, hC1, by simpa using HF1.out⟩
      case round =>
        clear hC1 t0 t1 hfz
        obtain ⟨k, hk, rfl, hC, hF⟩ := hrel
        have hln : (List.replicate k (blank (tornSt false)) ++ f[i].pages.drop k).length = 4 := by have := H4.out; simp; omega
        obtain ⟨t0, t1⟩ := hF.two' (HGI.out _) HP.out
        simp only [hln] at t0
        have HLN := Lib.hid hln; clear hln
        by_cases hlt : k < 4
        · have hth := hF.there (HGI.out _) HP.out (k := k) (Nat.lt_of_lt_of_eq hlt HLN.out.symm)
          have hF2 := hF.page' hnd (HGI.out _) HP.out (k := k) (Nat.lt_of_lt_of_eq hlt HLN.out.symm) (blank (tornSt false))
          rw [rep_set _ _ _ H4.out hlt, List.set_set] at hF2
          have hC2 := setAll_chg (o := p.o + k * 5) hC hpl (pageC (blank (tornSt false)))
          have HF2 := Lib.hid hF2; have HC2 := Lib.hid hC2; clear hF2 hC2 hF hC
          go_wp2_with (refine wpList_store_mid rfl 126 _ _ rfl p.b (p.o + k * 5) (pageC (blank (tornSt false))).toArray rfl rfl hth (by kernel_rfl) (by simp [Value.oneCell', blank]) ?_; change wpList _ _ _ _ _ (setAll wr p.b (p.o + k * 5) (pageC (blank (tornSt false)))); generalize setAll wr p.b (p.o + k * 5) (pageC (blank (tornSt false))) = w2 at *)
          exact ⟨⟨k + 1, by omega, by go_num, HC2.out, HF2.out⟩, by simp [intOf]; omega⟩
        · obtain rfl : k = 4 := by omega
          have hF2 := hF
          rw [List.drop_eq_nil_of_le (by have := H4.out; omega), List.append_nil] at hF2
          have HF2 := Lib.hid hF2; clear hF2 hF
          go_wp2_with fail
          go_ret2
          rw [HQ2.out, HQ.out, if_neg (by omega)]
          exact ⟨by simp; omega, hC, HF2.out⟩
    · go_loopw [9] (fun y wr => ∃ (k : Nat), k ≤ 4 ∧ y = .int .i64 k ∧ Chg c.fl w wr ∧ FlashAt c wr (f.set i ⟨List.replicate k (blank (tornSt true)) ++ f[i].pages.drop k, f[i].worn + 1⟩)) (fun y _ => 4 - (intOf y).toNat)
      case atStart => exact ⟨0, by omega, rfl, hC1, by simpa using HF1.out⟩
      case round =>
        clear hC1 t0 t1 hfz
        obtain ⟨k, hk, rfl, hC, hF⟩ := hrel
        have hln : (List.replicate k (blank (tornSt true)) ++ f[i].pages.drop k).length = 4 := by have := H4.out; simp; omega
        obtain ⟨t0, t1⟩ := hF.two' (HGI.out _) HP.out
        simp only [hln] at t0
        have HLN := Lib.hid hln; clear hln
        by_cases hlt : k < 4
        · have hth := hF.there (HGI.out _) HP.out (k := k) (Nat.lt_of_lt_of_eq hlt HLN.out.symm)
          have hF2 := hF.page' hnd (HGI.out _) HP.out (k := k) (Nat.lt_of_lt_of_eq hlt HLN.out.symm) (blank (tornSt true))
          rw [rep_set _ _ _ H4.out hlt, List.set_set] at hF2
          have hC2 := setAll_chg (o := p.o + k * 5) hC hpl (pageC (blank (tornSt true)))
          have HF2 := Lib.hid hF2; have HC2 := Lib.hid hC2; clear hF2 hC2 hF hC
          go_wp2_with (refine wpList_store_mid rfl 126 _ _ rfl p.b (p.o + k * 5) (pageC (blank (tornSt true))).toArray rfl rfl hth (by kernel_rfl) (by simp [Value.oneCell', blank]) ?_; change wpList _ _ _ _ _ (setAll wr p.b (p.o + k * 5) (pageC (blank (tornSt true)))); generalize setAll wr p.b (p.o + k * 5) (pageC (blank (tornSt true))) = w2 at *)
          exact ⟨⟨k + 1, by omega, by go_num, HC2.out, HF2.out⟩, by simp [intOf]; omega⟩
        · obtain rfl : k = 4 := by omega
          have hF2 := hF
          rw [List.drop_eq_nil_of_le (by have := H4.out; omega), List.append_nil] at hF2
          have HF2 := Lib.hid hF2; clear hF2 hF
          go_wp2_with fail
          go_ret2
          rw [HQ2.out, HQ.out, if_neg (by omega)]
          exact ⟨by simp; omega, hC, HF2.out⟩

theorem cleanN_bd : ∀ (ps : List Page) (n : Int), n ≤ ps.foldl cleanStep n ∧ ps.foldl cleanStep n ≤ n + ps.length
  | [], n => by simp
  | p :: ps, n => by
    have := cleanN_bd ps (cleanStep n p)
    simp only [List.foldl_cons, List.length_cons]
    have h1 : n ≤ cleanStep n p ∧ cleanStep n p ≤ n + 1 := by unfold cleanStep; split <;> omega
    omega

def pageW (r : Rec) (torn : Bool) : Page := if torn then ⟨2, rec0⟩ else ⟨1, r⟩
def writeOk (f : List Block) (i : Nat) (r : Rec) : Bool := !(decide (cleanN (blockAt f i).pages = 0) || seqUsed f r.seq)
def writeF (f : List Block) (i : Nat) (r : Rec) (torn : Bool) : List Block :=
  if writeOk f i r then f.set i ⟨(blockAt f i).pages.set (4 - (cleanN (blockAt f i).pages).toNat) (pageW r torn), (blockAt f i).worn⟩ else f

set_option maxRecDepth 20000 in
set_option maxHeartbeats 2000000 in
theorem l2Write_c (c : SC) (f : List Block) (i : Nat) (r : Rec) (torn : Bool) (w : World) (h : FlashAt c w f) (hnd : c.fl.Nodup) (hi : i < f.length) (h4 : ∀ b ∈ f, b.pages.length = 4) (hn : f.length ≤ 1048576) :
    Calls Tryz.prog 122 #[c.F.v f.length, .int .i64 i, recA r, .bool torn] w (RetF c w (.tuple #[c.F.v f.length, .bool (writeOk f i r)]) (writeF f i r torn)) := by
  have hip : i < c.ps.length := by rw [h.len]; exact hi
  obtain ⟨p, hp⟩ : ∃ p, c.ps[i]? = some p := ⟨_, List.getElem?_eq_getElem hip⟩
  obtain ⟨t0, t1⟩ := h.two hi hp
  have hq : writeF f i r torn = if writeOk f i r then f.set i ⟨f[i].pages.set (4 - (cleanN f[i].pages).toNat) (pageW r torn), f[i].worn⟩ else f := by unfold writeF; rw [blockAt_get hi]
  have hq2 : writeOk f i r = !(decide (cleanN f[i].pages = 0) || seqUsed f r.seq) := by unfold writeOk; rw [blockAt_get hi]
  have hcb := cleanN_bd f[i].pages 0
  have h4i := h4 f[i] (List.getElem_mem _)
  have HPB := Lib.hid (fun (b : Block) (hb : b ∈ f) => (show b.pages.length ≤ 1048576 from by have := h4 b hb; omega))
  have hcl : ∀ w', Ext w w' → Calls Tryz.prog 105 #[.agg #[p.v f[i].pages.length, .int .i64 f[i].worn]] w' (Ret w' (.int .i64 (cleanN f[i].pages))) := fun w' hx =>
    l2Clean_c _ f[i].pages f[i].worn w' (((h.pages i f[i] p (List.getElem?_eq_getElem hi) hp).ext hx).of ((h.pages i f[i] p (List.getElem?_eq_getElem hi) hp).ext hx).lt _) (by omega)
  have hsq : ∀ w', Ext w w' → Calls Tryz.prog 137 #[c.F.v f.length, .int .i64 r.seq] w' (Ret w' (.bool (seqUsed f r.seq))) := fun w' hx =>
    l2Seq_c _ f r.seq w' (h.ext hx).flash hn HPB.out
  have hb0 : c.F.b < w.heap.size := h.lt _ (by simp [SC.fl])
  obtain ⟨m, hm⟩ : ∃ m : Nat, cleanN f[i].pages = m := ⟨(cleanN f[i].pages).toNat, by unfold cleanN; omega⟩
  have hm4 : m ≤ 4 := by unfold cleanN at hm; omega
  rw [hm] at hq hq2 hcl
  generalize hsu : seqUsed f r.seq = su at *
  have HQ := Lib.hid hq; have HQ2 := Lib.hid hq2; have HP := Lib.hid hp; have H4 := Lib.hid h4i; have HC := Lib.hid hcl; have HS := Lib.hid hsq
  clear hq hq2 hp h4 h4i hcl hsq hcb hm hsu hip
  by_cases hm0 : m = 0
  · subst hm0
    go_enter Tryz.func122, Tryz.ntmps122
    go_wp2_with fail
    refine (HC.out _ (ext_alloc (ext_refl _) _)).mono ?_; rintro e1 w1 ⟨rfl, hx1⟩
    obtain ⟨hc1, hf1, hz1, X1⟩ := after1 hx1
    go_wp2_with fail
    go_ret2
    have hf : writeOk f i r = false := by rw [HQ2.out]; simp
    rw [HQ.out, hf]
    exact ⟨rfl, Chg.of_ext X1, h.ext X1⟩
  · have hmf : (((m : Nat) : Int) == 0) = false := by simp; omega
    cases su with
    | true =>
      go_enter Tryz.func122, Tryz.ntmps122
      go_wp2_with fail
      refine (HC.out _ (ext_alloc (ext_refl _) _)).mono ?_; rintro e1 w1 ⟨rfl, hx1⟩
      obtain ⟨hc1, hf1, hz1, X1⟩ := after1 hx1
      go_wp2_with fail
      refine (HS.out _ X1).mono ?_; rintro e2 w2 ⟨rfl, hx2⟩
      go_wp2_with fail
      go_ret2
      have X2 := ext_trans X1 hx2
      have hf : writeOk f i r = false := by rw [HQ2.out]; simp
      rw [HQ.out, hf]
      exact ⟨rfl, Chg.of_ext X2, h.ext X2⟩
    | false =>
      have hf : writeOk f i r = true := by rw [HQ2.out]; simp; omega
      rw [HQ.out, hf, if_pos rfl, Int.toNat_natCast]
      have hkl : 4 - m < f[i].pages.length := by have := H4.out; omega
      have hk4 : ((4 : Int) - (m : Int)) = ((4 - m : Nat) : Int) := by omega
      generalize 4 - m = k at *
      have HK4 := Lib.hid hk4
      have hkw : IntKind.i64.wrap ((4 : Int) - (m : Int)) = (k : Int) := by rw [HK4.out]; exact IntWalk.i64_in _ (by have := H4.out; omega)
      have hk5 : (k : Int) < 4 := by have := H4.out; omega
      have HKW := Lib.hid hkw
      clear hf hk4 hkw
      have hpl : p.b ∈ c.fl := List.mem_cons_of_mem _ (List.mem_map.2 ⟨p, List.mem_of_getElem? HP.out, rfl⟩)
      cases torn
      all_goals
        go_enter Tryz.func122, Tryz.ntmps122
        go_wp2_with fail
        refine (HC.out _ (ext_alloc (ext_refl _) _)).mono ?_; rintro e1 w1 ⟨rfl, hx1⟩
        obtain ⟨hc1, hf1, hz1, X1⟩ := after1 hx1
        have G0 := keep_ext hx1 (hg_new (b := w.heap.size) rfl)
        go_wp2_with fail
        refine (HS.out _ X1).mono ?_; rintro e2 w2 ⟨rfl, hx2⟩
        have X2 := ext_trans X1 hx2
        replace G0 := keep_ext hx2 G0
        obtain ⟨g0, gf0⟩ := cellsK G0
        have l0 := heap_lt G0
        have h2 := h.ext X2
        obtain ⟨t2, t3⟩ := h2.two hi HP.out
        have hb2 : c.F.b < w2.heap.size := Nat.lt_of_lt_of_le hb0 X2.size
        rw [H4.out] at t2
        have H2 := Lib.hid h2
        clear hc1 hf1 t0 t1 h2
        have hkw := HKW.out
        go_wp2_with fail
      · skip
        refine wp_region_ext [] [0, 1, 2, 3, 4, 5, 6, 7, 8] [] [9] (by kernel_rfl) (by kernel_rfl) ?late ?_
        case late => exact fun f hf => absurd hf List.not_mem_nil
        iterate 2
          refine Rob.y (v := ?_) rfl rfl (fun w1 hx hH => ?_) ?_; rotate_left
          · go_simp; first | done | rfl | exact (Bool.not_not _).symm
          simp only [Act.put, List.setIfInBounds_toArray, List.set_cons_succ, List.set_cons_zero]
        refine Rob.y (v := ?_) rfl rfl (fun w1 hx hH => ?_) ?_; rotate_left
        · (obtain ⟨hcx, hfx⟩ := bcell hx); go_simp; first | done | rfl
        simp only [Act.put, List.setIfInBounds_toArray, List.set_cons_succ, List.set_cons_zero]
        refine Rob.y (v := ?_) rfl rfl (fun w1 hx hH => ?_) ?_; rotate_left
        · go_simp; first | done | rfl | exact (Bool.not_not _).symm
        simp only [Act.put, List.setIfInBounds_toArray, List.set_cons_succ, List.set_cons_zero]
        refine Rob.y (v := ?_) rfl rfl (fun w1 hx hH => ?_) ?_; rotate_left
        · (obtain ⟨hcx, hfx⟩ := bcell hx); go_simp; first | done | rfl
        simp only [Act.put, List.setIfInBounds_toArray, List.set_cons_succ, List.set_cons_zero]
        iterate 2
          refine Rob.y (v := ?_) rfl rfl (fun w1 hx hH => ?_) ?_; rotate_left
          · go_simp; first | done | rfl | exact (Bool.not_not _).symm
          simp only [Act.put, List.setIfInBounds_toArray, List.set_cons_succ, List.set_cons_zero]
        iterate 2
          refine Rob.y (v := ?_) rfl rfl (fun w1 hx hH => ?_) ?_; rotate_left
          · (obtain ⟨hcx, hfx⟩ := bcell hx); go_simp; first | done | rfl
          simp only [Act.put, List.setIfInBounds_toArray, List.set_cons_succ, List.set_cons_zero]
        refine fin_tail (fun w3 hx3 _ => ?_)
        simp only [dstOf, List.getElem?_cons_succ, List.getElem?_cons_zero, Option.bind_some, Act.put, List.setIfInBounds_toArray, List.set_cons_succ, List.set_cons_zero, List.filterMap_cons, List.filterMap_nil]
        have X3 : Ext w w3 := ext_trans (ext_trans X2 (by go_grown)) hx3
        have h3 := h.ext X3
        have hth := h3.there (List.getElem?_eq_getElem hi) HP.out hkl
        have hF := h3.page' hnd (List.getElem?_eq_getElem hi) HP.out hkl (pageW r false)
        have hC := setAll_chg (o := p.o + k * 5) (Chg.of_ext X3) hpl (pageC (pageW r false))
        have HF := Lib.hid hF; have HC3 := Lib.hid hC; clear hF hC h3
        refine wpList_store_mid rfl 126 _ _ rfl p.b (p.o + k * 5) (pageC (pageW r false)).toArray rfl rfl hth (by kernel_rfl) (by simp [Value.oneCell', pageW]) ?_
        · refine wpList_nil ?_
          change Exit.then _ _ _ _ (setAll w3 p.b (p.o + k * 5) (pageC (pageW r false)))
          generalize setAll w3 p.b (p.o + k * 5) (pageC (pageW r false)) = w4 at *
          go_wp2_with fail
          go_ret2
          exact ⟨rfl, HC3.out, HF.out⟩
      · skip
        refine wp_region_ext [] [0, 1, 2, 3, 4, 5, 6, 7, 8] [] [9] (by kernel_rfl) (by kernel_rfl) ?late ?_
        case late => exact fun f hf => absurd hf List.not_mem_nil
        iterate 2
          refine Rob.y (v := ?_) rfl rfl (fun w1 hx hH => ?_) ?_; rotate_left
          · go_simp; first | done | rfl | exact (Bool.not_not _).symm
          simp only [Act.put, List.setIfInBounds_toArray, List.set_cons_succ, List.set_cons_zero]
        refine Rob.y (v := ?_) rfl rfl (fun w1 hx hH => ?_) ?_; rotate_left
        · (obtain ⟨hcx, hfx⟩ := bcell hx); go_simp; first | done | rfl
        simp only [Act.put, List.setIfInBounds_toArray, List.set_cons_succ, List.set_cons_zero]
        refine Rob.y (v := ?_) rfl rfl (fun w1 hx hH => ?_) ?_; rotate_left
        · go_simp; first | done | rfl | exact (Bool.not_not _).symm
        simp only [Act.put, List.setIfInBounds_toArray, List.set_cons_succ, List.set_cons_zero]
        refine Rob.y (v := ?_) rfl rfl (fun w1 hx hH => ?_) ?_; rotate_left
        · (obtain ⟨hcx, hfx⟩ := bcell hx); go_simp; first | done | rfl
        simp only [Act.put, List.setIfInBounds_toArray, List.set_cons_succ, List.set_cons_zero]
        iterate 2
          refine Rob.y (v := ?_) rfl rfl (fun w1 hx hH => ?_) ?_; rotate_left
          · go_simp; first | done | rfl | exact (Bool.not_not _).symm
          simp only [Act.put, List.setIfInBounds_toArray, List.set_cons_succ, List.set_cons_zero]
        iterate 2
          refine Rob.y (v := ?_) rfl rfl (fun w1 hx hH => ?_) ?_; rotate_left
          · (obtain ⟨hcx, hfx⟩ := bcell hx); go_simp; first | done | rfl
          simp only [Act.put, List.setIfInBounds_toArray, List.set_cons_succ, List.set_cons_zero]
        refine fin_tail (fun w3 hx3 _ => ?_)
        simp only [dstOf, List.getElem?_cons_succ, List.getElem?_cons_zero, Option.bind_some, Act.put, List.setIfInBounds_toArray, List.set_cons_succ, List.set_cons_zero, List.filterMap_cons, List.filterMap_nil]
        have X3 : Ext w w3 := ext_trans (ext_trans X2 (by go_grown)) hx3
        have h3 := h.ext X3
        have hth := h3.there (List.getElem?_eq_getElem hi) HP.out hkl
        have hF := h3.page' hnd (List.getElem?_eq_getElem hi) HP.out hkl (pageW r true)
        have hC := setAll_chg (o := p.o + k * 5) (Chg.of_ext X3) hpl (pageC (pageW r true))
        have HF := Lib.hid hF; have HC3 := Lib.hid hC; clear hF hC h3
        refine wpList_store_mid rfl 126 _ _ rfl p.b (p.o + k * 5) (pageC (pageW r true)).toArray rfl rfl hth (by kernel_rfl) (by simp [Value.oneCell', pageW]) ?_
        · refine wpList_nil ?_
          change Exit.then _ _ _ _ (setAll w3 p.b (p.o + k * 5) (pageC (pageW r true)))
          generalize setAll w3 p.b (p.o + k * 5) (pageC (pageW r true)) = w4 at *
          go_wp2_with fail
          go_ret2
          exact ⟨rfl, HC3.out, HF.out⟩

/-- four blocks of four pages, six values -/
structure Shape (s : Store) : Prop where
  flash : s.flash.length = 4
  pages : ∀ b ∈ s.flash, b.pages.length = 4
  worn : ∀ b ∈ s.flash, 0 ≤ b.worn ∧ b.worn ≤ 1000
  disk : s.disk.length = 6
/-- a step that is about blocks and addresses that there are -/
structure Fit (x : Step) : Prop where
  addr : x.kind = 1 → 1 ≤ x.addr ∧ x.addr ≤ 6
  block : x.kind ≠ 1 → 0 ≤ x.block ∧ x.block ≤ 3

def doStep (s : Store) (x : Step) (torn : Bool) : Store :=
  if x.kind = 1 then (if torn then s else ⟨s.flash, s.disk.set (x.addr - 1).toNat x.val⟩) else if x.kind = 2 then ⟨wipeF s.flash x.block.toNat torn, s.disk⟩ else if x.kind = 3 then ⟨writeF s.flash x.block.toNat x.r torn, s.disk⟩ else s

theorem wipeF_len (f : List Block) (i : Nat) (t : Bool) : (wipeF f i t).length = f.length := by unfold wipeF; split <;> simp
theorem writeF_len (f : List Block) (i : Nat) (r : Rec) (t : Bool) : (writeF f i r t).length = f.length := by unfold writeF; split <;> simp
theorem doStep_len (s : Store) (x : Step) (t : Bool) : (doStep s x t).flash.length = s.flash.length ∧ (doStep s x t).disk.length = s.disk.length := by
  unfold doStep; (repeat' split) <;> simp [wipeF_len, writeF_len]

/-- what a call leaves that writes into its own store in place, and hands it back -/
def RetO (c : SC) (w : World) (s : Store) (e : Ending) (w' : World) : Prop := e = .returned (.agg #[c.fv s, c.dv s]) ∧ Chg c.L w w' ∧ OwnS c w' s
theorem fl_L {c : SC} : ∀ b ∈ c.fl, b ∈ c.L := fun b hb => List.mem_append_left _ hb

set_option maxRecDepth 20000 in
set_option maxHeartbeats 2000000 in
theorem l12Do_c (c : SC) (s : Store) (x : Step) (torn : Bool) (w : World) (h : OwnS c w s) (hs : Shape s) (hf : Fit x) :
    Calls Tryz.prog 86 #[.agg #[c.fv s, c.dv s], stepA x, .bool torn] w (RetO c w (doStep s x torn)) := by
  have hlt := h.lt
  have HLT := Lib.hid hlt; clear hlt
  obtain ⟨hl1, hl2⟩ := doStep_len s x torn
  have HL1 := Lib.hid hl1; have HL2 := Lib.hid hl2; clear hl1 hl2
  have hD : c.D.b < w.heap.size := HLT.out _ (by simp [SC.L])
  have hfl := SC.fl_nd h.nd
  obtain ⟨k, addr, val, block, r⟩ := x
  have HS := Lib.hid hs; have HF := Lib.hid hf; clear hs hf
  by_cases h1 : k = 1
  · subst h1
    obtain ⟨n, rfl, hn6⟩ : ∃ n : Nat, addr = (n : Int) + 1 ∧ n < 6 := ⟨(addr - 1).toNat, by have := HF.out.addr rfl; dsimp only at this; omega, by have := HF.out.addr rfl; dsimp only at this; omega⟩
    cases torn with
    | true =>
      have hq : doStep s ⟨1, (n : Int) + 1, val, block, r⟩ true = s := rfl
      rw [hq]
      go_enter Tryz.func86, Tryz.ntmps86
      go_wp2_with fail
      refine bodyPost_ret (v := .agg #[c.fv s, c.dv s]) (by simp [results, Tryz.results86, go_sem]) rfl ⟨rfl, ?_, ?_⟩
      · exact Chg.of_ext (by go_grown)
      · exact h.ext (by go_grown)
    | false =>
      have hq : doStep s ⟨1, (n : Int) + 1, val, block, r⟩ false = ⟨s.flash, s.disk.set n val⟩ := by simp [doStep]
      rw [hq] at HL2 ⊢
      have hnd : n < s.disk.length := by rw [HS.out.disk]; exact hn6
      have hcell := h.disk.one hnd
      have hfz := h.disk.frozen
      have hS1 : OwnS c (w.setCell ⟨c.D.b, c.D.o + n, none⟩ (.int .i64 val)) ⟨s.flash, s.disk.set n val⟩ := by
        refine ⟨h.flash.keep fun b hb => Below.heap_setCell _ _ _ _ (SC.D_ne h.nd b hb), ?_, h.nd⟩
        have := OwnAt.set1 (n := 1) (enc := intC) (fun _ => rfl) h.disk hnd (j := 0) (by omega) (.int .i64 val) val rfl
        simpa using this
      have HS1 := Lib.hid hS1; clear hS1 hq
      have n0 : ¬ w.heap.size = c.D.b := by omega
      have n1 : ¬ w.heap.size + 1 = c.D.b := by omega
      have n2 : ¬ w.heap.size + 1 + 1 = c.D.b := by omega
      have hD1 : c.D.b < w.heap.size + 1 := by omega
      have hD2 : c.D.b < w.heap.size + 1 + 1 := by omega
      have hc1 : Chg c.L w (w.setCell ⟨c.D.b, c.D.o + n, none⟩ (.int .i64 val)) := (Chg.refl _ _).set (.inl (by simp [SC.L])) _
      have HC1 := Lib.hid hc1; clear hc1
      go_enter Tryz.func86, Tryz.ntmps86
      go_wp2_with fail
      refine bodyPost_ret (v := .agg #[c.fv s, c.dv s]) (by simp [results, Tryz.results86, go_sem]) rfl ⟨by simp [SC.dv], ?_, ?_⟩
      · exact ((HC1.out.alloc _).alloc _).alloc _
      · exact ((HS1.out.alloc2).alloc2).alloc2
  have hnb := h.new
  have HNB := Lib.hid hnb; clear hnb
  by_cases h2 : k = 2
  · subst h2
    obtain ⟨n, rfl, hn4⟩ : ∃ n : Nat, block = n ∧ n < 4 := ⟨block.toNat, by have := HF.out.block (by simp); dsimp only at this; omega, by have := HF.out.block (by simp); dsimp only at this; omega⟩
    have hi : n < s.flash.length := by rw [HS.out.flash]; exact hn4
    have hq : doStep s ⟨2, addr, val, n, r⟩ torn = ⟨wipeF s.flash n torn, s.disk⟩ := by simp [doStep]
    rw [hq] at HL1 ⊢
    have hns : s.flash.length ≤ 1048576 := by have := HS.out.flash; omega
    have HNS := Lib.hid hns; have HI := Lib.hid hi; clear hq hns hi
    have nfl : ∀ b, w.heap.size ≤ b → b ∉ c.fl := fun b hb hm => HNB.out b hb (fl_L b hm)
    have NFL := Lib.hid nfl; clear nfl
    go_enter Tryz.func86, Tryz.ntmps86
    go_wp2_with fail
    refine (l2Wipe_c c s.flash n torn _ ((h.ext (by go_grown)).flash) hfl HI.out (HS.out.pages _ (List.getElem_mem _)) (HS.out.worn _ (List.getElem_mem _)) HNS.out).mono ?_; rintro e1 w1 ⟨rfl, hC, hF1⟩
    have G0 := hC.keep (hg_alloc (hg_alloc (hg_new (b := w.heap.size) rfl))) (NFL.out _ (by omega))
    have G1 := hC.keep (hg_alloc (hg_new (b := w.heap.size + 1) (by simp))) (NFL.out _ (by omega))
    have G2 := hC.keep (hg_new (b := w.heap.size + 1 + 1) (by simp)) (NFL.out _ (by omega))
    have C1 : Chg c.L w w1 := Chg.trans (Chg.of_ext (by go_grown)) (hC.mono fl_L)
    have S1 : OwnS c w1 ⟨wipeF s.flash n torn, s.disk⟩ := ⟨hF1, (h.ext (by go_grown)).disk.chg hC (fun hm => SC.D_ne h.nd _ hm rfl), h.nd⟩
    have HS1 := Lib.hid S1; have HC1 := Lib.hid C1
    clear hC hF1 C1 S1
    obtain ⟨g0, gf0⟩ := cellsK G0
    obtain ⟨g1, gf1⟩ := cellsK G1
    obtain ⟨g2, gf2⟩ := cellsK G2
    have hl1 := HL1.out
    have LN := Lib.hid hl1; clear hl1
    go_wp2_with fail
    refine bodyPost_ret (v := .agg #[c.fv s, c.dv s]) (by simp [results, Tryz.results86, go_sem, g0, gf0, g1, gf1, g2, gf2]) rfl ⟨by simp [SC.fv, wipeF_len], ?_, ?_⟩
    · have hc := HC1.out
      ((repeat (first | with_reducible (refine Chg.set2 ?_ ?_); focus (exact Or.inr (by dsimp only; omega)) | with_reducible refine Chg.alloc2 ?_)); with_reducible exact hc)
    · have ho := HS1.out
      ((repeat (first | (with_reducible apply OwnS.set2; focus (exact HNB.out _ (by dsimp only; omega))) | with_reducible apply OwnS.alloc2)); with_reducible exact ho)
  by_cases h3 : k = 3
  · subst h3
    obtain ⟨n, rfl, hn4⟩ : ∃ n : Nat, block = n ∧ n < 4 := ⟨block.toNat, by have := HF.out.block (by simp); dsimp only at this; omega, by have := HF.out.block (by simp); dsimp only at this; omega⟩
    have hi : n < s.flash.length := by rw [HS.out.flash]; exact hn4
    have hq : doStep s ⟨3, addr, val, n, r⟩ torn = ⟨writeF s.flash n r torn, s.disk⟩ := by simp [doStep]
    rw [hq] at HL1 ⊢
    have hns : s.flash.length ≤ 1048576 := by have := HS.out.flash; omega
    have HNS := Lib.hid hns; have HI := Lib.hid hi; clear hq hns hi
    have nfl : ∀ b, w.heap.size ≤ b → b ∉ c.fl := fun b hb hm => HNB.out b hb (fl_L b hm)
    have NFL := Lib.hid nfl; clear nfl
    go_enter Tryz.func86, Tryz.ntmps86
    go_wp2_with fail
    refine (l2Write_c c s.flash n r torn _ ((h.ext (by go_grown)).flash) hfl HI.out HS.out.pages HNS.out).mono ?_; rintro e1 w1 ⟨rfl, hC, hF1⟩
    have G0 := hC.keep (hg_alloc (hg_alloc (hg_new (b := w.heap.size) rfl))) (NFL.out _ (by omega))
    have G1 := hC.keep (hg_alloc (hg_new (b := w.heap.size + 1) (by simp))) (NFL.out _ (by omega))
    have G2 := hC.keep (hg_new (b := w.heap.size + 1 + 1) (by simp)) (NFL.out _ (by omega))
    have C1 : Chg c.L w w1 := Chg.trans (Chg.of_ext (by go_grown)) (hC.mono fl_L)
    have S1 : OwnS c w1 ⟨writeF s.flash n r torn, s.disk⟩ := ⟨hF1, (h.ext (by go_grown)).disk.chg hC (fun hm => SC.D_ne h.nd _ hm rfl), h.nd⟩
    have HS1 := Lib.hid S1; have HC1 := Lib.hid C1
    clear hC hF1 C1 S1
    obtain ⟨g0, gf0⟩ := cellsK G0
    obtain ⟨g1, gf1⟩ := cellsK G1
    obtain ⟨g2, gf2⟩ := cellsK G2
    have hl1 := HL1.out
    have LN := Lib.hid hl1; clear hl1
    go_wp2_with fail
    refine bodyPost_ret (v := .agg #[c.fv s, c.dv s]) (by simp [results, Tryz.results86, go_sem, g0, gf0, g1, gf1, g2, gf2]) rfl ⟨by simp [SC.fv, writeF_len], ?_, ?_⟩
    · have hc := HC1.out
      ((repeat (first | with_reducible (refine Chg.set2 ?_ ?_); focus (exact Or.inr (by dsimp only; omega)) | with_reducible refine Chg.alloc2 ?_)); with_reducible exact hc)
    · have ho := HS1.out
      ((repeat (first | (with_reducible apply OwnS.set2; focus (exact HNB.out _ (by dsimp only; omega))) | with_reducible apply OwnS.alloc2)); with_reducible exact ho)
  · have hq : doStep s ⟨k, addr, val, block, r⟩ torn = s := by unfold doStep; rw [if_neg h1, if_neg h2, if_neg h3]
    rw [hq]; clear hq
    have b1 : (k == 1) = false := by simpa using h1
    have b2 : (k == 2) = false := by simpa using h2
    have b3 : (k == 3) = false := by simpa using h3
    clear h1 h2 h3
    go_enter Tryz.func86, Tryz.ntmps86
    go_wp2_with fail
    refine bodyPost_ret (v := .agg #[c.fv s, c.dv s]) (by simp [results, Tryz.results86, go_sem]) rfl ⟨rfl, ?_, ?_⟩
    · exact Chg.of_ext (by go_grown)
    · exact h.ext (by go_grown)
end Go.Bu

set_option linter.unusedVariables false
set_option linter.unusedSimpArgs false
namespace Go.Bu
open Go Go.RowKit Go.Plan Go.Proofs

def doAll (s : Store) (xs : List Step) : Store := xs.foldl (fun s x => doStep s x false) s
def toSteps (s : Store) (xs : List Step) (cut : Int) (torn : Bool) : Store :=
  if torn && decide (0 ≤ cut) && decide (cut < xs.length) then doStep (doAll s (xs.take cut.toNat)) ((xs[cut.toNat]?).getD ⟨0, 0, 0, 0, rec0⟩) true else doAll s (xs.take cut.toNat)

theorem mem_set {α : Type} {xs : List α} {i : Nat} {x y : α} (h : y ∈ xs.set i x) : y ∈ xs ∨ y = x := by
  rcases List.mem_or_eq_of_mem_set h with h | h
  · exact .inl h
  · exact .inr h
theorem blockAt_mem {f : List Block} {i : Nat} (h : i < f.length) : blockAt f i ∈ f := by rw [blockAt_get h]; exact List.getElem_mem _

theorem Shape.wipe {s : Store} (h : Shape s) (i : Nat) (t : Bool) (hi : i < 4) : Shape ⟨wipeF s.flash i t, s.disk⟩ := by
  have hb := blockAt_mem (f := s.flash) (i := i) (by rw [h.flash]; exact hi)
  refine ⟨by show (wipeF _ _ _).length = 4; rw [wipeF_len]; exact h.flash, fun b hm => ?_, fun b hm => ?_, h.disk⟩
  · simp only [wipeF] at hm
    split at hm
    · exact h.pages b hm
    · rcases mem_set hm with hm | rfl
      · exact h.pages b hm
      · rfl
  · simp only [wipeF] at hm
    split at hm
    · exact h.worn b hm
    · rcases mem_set hm with hm | rfl
      · exact h.worn b hm
      · have := h.worn _ hb; dsimp only; omega
theorem Shape.write {s : Store} (h : Shape s) (i : Nat) (r : Rec) (t : Bool) (hi : i < 4) : Shape ⟨writeF s.flash i r t, s.disk⟩ := by
  have hb := blockAt_mem (f := s.flash) (i := i) (by rw [h.flash]; exact hi)
  refine ⟨by show (writeF _ _ _ _).length = 4; rw [writeF_len]; exact h.flash, fun b hm => ?_, fun b hm => ?_, h.disk⟩
  · simp only [writeF] at hm
    split at hm
    · rcases mem_set hm with hm | rfl
      · exact h.pages b hm
      · rw [List.length_set]; exact h.pages _ hb
    · exact h.pages b hm
  · simp only [writeF] at hm
    split at hm
    · rcases mem_set hm with hm | rfl
      · exact h.worn b hm
      · have := h.worn _ hb; exact this
    · exact h.worn b hm
theorem Shape.step {s : Store} (h : Shape s) {x : Step} (hx : Fit x) (t : Bool) : Shape (doStep s x t) := by
  unfold doStep
  by_cases h1 : x.kind = 1
  · rw [if_pos h1]; split
    · exact h
    · exact ⟨h.flash, h.pages, h.worn, by simp [h.disk]⟩
  · have hb := hx.block h1
    rw [if_neg h1]; split
    · exact h.wipe _ _ (by omega)
    · split
      · exact h.write _ _ _ (by omega)
      · exact h
theorem Shape.all {xs : List Step} : ∀ {s : Store}, Shape s → (∀ x ∈ xs, Fit x) → Shape (doAll s xs) := fun {s} h hx =>
  foldl_inv (fun s x => doStep s x false) Shape xs s h fun s x hm hs => hs.step (hx x hm) false

/-- steps that lie apart from a store -/
abbrev StepsAt (c : SC) (w : World) (v : Value) (xs : List Step) : Prop := Steps' (fun b => b < w.heap.size ∧ b ∉ c.L) w v xs
theorem StepsAt.chg {c : SC} {w w' : World} {v : Value} {xs : List Step} (h : StepsAt c w v xs) (hx : Chg c.L w w') : StepsAt c w' v xs :=
  Sl.same (plain_kept _) h (fun b hb => hx.block b hb.1 hb.2) fun b hb => ⟨Nat.lt_of_lt_of_le hb.1 hx.size, hb.2⟩
theorem SRow.at_ {c : SC} {base : Nat} {w : World} {v : Value} {xs : List Step} (h : SRow base w v xs) (hb : ∀ b, base ≤ b → b ∉ c.L) : StepsAt c w v xs := by
  rcases h.2 with ⟨rfl, h0⟩ | ⟨g, cap, cur, rfl, hg, hh, _, _, _, ht⟩
  · have : xs = [] := List.length_eq_zero_iff.1 h0
    subst this
    exact ⟨none, 0, rfl, fun i x hx => by simp at hx⟩
  · refine ⟨_, cap, rfl, fun i x hx => ⟨g, 0, stepC x, rfl, ⟨heap_lt hh, hb g hg⟩, rfl, fun j u hu => ?_⟩⟩
    have := flat_get (enc := stepC) (n := 8) (fun _ => rfl) xs i x j u hx hu
    rw [← ht] at this
    have hlt := (List.getElem?_eq_some_iff.1 this).1
    rw [List.length_take] at hlt
    rw [List.getElem?_take_of_lt (by omega)] at this
    rw [cell_block hh, Nat.zero_add]
    simpa using this

theorem doAll_len (xs : List Step) : ∀ s : Store, (doAll s xs).flash.length = s.flash.length ∧ (doAll s xs).disk.length = s.disk.length := by
  induction xs with
  | nil => exact fun s => ⟨rfl, rfl⟩
  | cons x xs ih => exact fun s => ⟨(ih _).1.trans (doStep_len s x false).1, (ih _).2.trans (doStep_len s x false).2⟩

/-- the same, its slices named -/
def RetOv (c : SC) (w : World) (fv dv : Value) (s : Store) (e : Ending) (w' : World) : Prop := e = .returned (.agg #[fv, dv]) ∧ Chg c.L w w' ∧ OwnS c w' s
theorem SC.same {c : SC} {s t : Store} (h : t.flash.length = s.flash.length ∧ t.disk.length = s.disk.length) : c.fv t = c.fv s ∧ c.dv t = c.dv s := ⟨by simp only [SC.fv, h.1], by simp only [SC.dv, h.2]⟩
theorem l12Do_v (c : SC) (s t : Store) (x : Step) (torn : Bool) (w : World) (h : OwnS c w s) (hs : Shape s) (hf : Fit x) (hl : s.flash.length = t.flash.length ∧ s.disk.length = t.disk.length) :
    Calls Tryz.prog 86 #[.agg #[c.fv t, c.dv t], stepA x, .bool torn] w (RetOv c w (c.fv t) (c.dv t) (doStep s x torn)) := by
  obtain ⟨h1, h2⟩ := SC.same (c := c) hl
  have := l12Do_c c s x torn w h hs hf
  rw [h1, h2] at this
  refine this.mono fun e w' ⟨he, hc, ho⟩ => ⟨?_, hc, ho⟩
  obtain ⟨h3, h4⟩ := SC.same (c := c) (doStep_len s x torn)
  rw [he, h3, h4, h1, h2]

set_option maxRecDepth 20000 in
set_option maxHeartbeats 4000000 in
theorem l12To_c (c : SC) (s : Store) (sv : Value) (xs : List Step) (cut : Int) (torn : Bool) (w : World) (h : OwnS c w s) (hs : Shape s) (hx : StepsAt c w sv xs) (hf : ∀ x ∈ xs, Fit x) (hn : xs.length ≤ 1000) (hc : -1000000 ≤ cut) :
    Calls Tryz.prog 57 #[.agg #[c.fv s, c.dv s], sv, .int .i64 cut, .bool torn] w (RetO c w (toSteps s xs cut torn)) := by
  obtain ⟨sa, scap, rfl⟩ := hx.form
  have hlt := h.lt
  have HLT := Lib.hid hlt; clear hlt
  have HNB := Lib.hid h.new
  obtain ⟨A, hA⟩ : ∃ A, doAll s (xs.take cut.toNat) = A := ⟨_, rfl⟩
  have HA : Hid (((xs.take cut.toNat).drop 0).foldl (fun s x => doStep s x false) s = A) := Lib.hid hA
  have hAl := doAll_len (xs.take cut.toNat) s
  rw [hA] at hAl
  obtain ⟨hal1, hal2⟩ := hAl
  have HF := Lib.hid hf; have HS := Lib.hid hs
  have HSA : Hid (Shape A) := Lib.hid (by rw [← hA]; exact hs.all fun x hm => hf x (List.mem_of_mem_take hm))
  have HQ : Hid (toSteps s xs cut torn = if torn && decide (0 ≤ cut) && decide (cut < xs.length) then doStep A ((xs[cut.toNat]?).getD ⟨0, 0, 0, 0, rec0⟩) true else A) := Lib.hid (by unfold toSteps; rw [hA])
  have HL1 := Lib.hid hal1; have HL2 := Lib.hid hal2
  clear hA hf hs hal1 hal2
  generalize toSteps s xs cut torn = RR at *
  go_enter Tryz.func57, Tryz.ntmps57
  go_wp2_with fail
  go_loopw [9] (fun y wr => ∃ (k : Nat) (s1 : Store), k ≤ xs.length ∧ ((k : Int) ≤ cut ∨ k = 0) ∧ y = .int .i64 k ∧ Chg c.L w wr ∧ OwnS c wr s1 ∧ Hid (Shape s1) ∧ Hid (s1.flash.length = s.flash.length) ∧ Hid (s1.disk.length = s.disk.length) ∧
    Hid (((xs.take cut.toNat).drop k).foldl (fun s x => doStep s x false) s1 = A) ∧ wr.heap[w.heap.size]? = some (.cells #[c.fv s, c.dv s] 31 (0, 0)) ∧ wr.heap[w.heap.size + 1]? = some (.cells #[.slice none 0 0, .slice none 0 0] 31 (0, 0))) (fun y _ => xs.length - (intOf y).toNat)
  case atStart =>
    exact ⟨0, s, by omega, .inr rfl, rfl, Chg.of_ext (by go_grown), h.ext (by go_grown), HS, Lib.hid rfl, Lib.hid rfl, HA, hg_alloc (hg_new rfl), hg_new (by simp)⟩
  case round =>
    obtain ⟨k, s1, hk, hkc, rfl, hC, hO, HS1, HE1, HE2, HR, G0, G1⟩ := hrel
    obtain ⟨g0, gf0⟩ := cellsK G0
    obtain ⟨g1, gf1⟩ := cellsK G1
    have l0 := heap_lt G0
    have l1 := heap_lt G1
    by_cases hgo : k < xs.length ∧ (k : Int) < cut
    · obtain ⟨hkl, hkc2⟩ := hgo
      obtain ⟨b, o, rfl, hb, e0, e1, e2, e3, e4, e5, e6, e7⟩ := (hx.chg hC).at8 hkl
      obtain ⟨hb1, hb2⟩ := hb
      rw [foldl_drop _ _ _ _ (by simp; omega), List.getElem_take] at HR
      go_wp2_with fail
      refine wp_region_ext [] [0, 1, 2, 3, 4] [] [5, 6] (by kernel_rfl) (by kernel_rfl) ?late ?_
      case late => exact fun f hf => absurd hf List.not_mem_nil
      refine Rob.y (v := ?_) rfl rfl (fun w1 hx hH => ?_) ?_; rotate_left
      · (obtain ⟨hcx, hfx⟩ := bcell hx); go_simp; first | done | rfl
      simp only [Act.put, List.setIfInBounds_toArray, List.set_cons_succ, List.set_cons_zero]
      iterate 2
        refine Rob.y (v := ?_) rfl rfl (fun w1 hx hH => ?_) ?_; rotate_left
        · go_simp; first | done | rfl | exact (Bool.not_not _).symm
        simp only [Act.put, List.setIfInBounds_toArray, List.set_cons_succ, List.set_cons_zero]
      iterate 2
        refine Rob.y (v := ?_) rfl rfl (fun w1 hx hH => ?_) ?_; rotate_left
        · (obtain ⟨hcx, hfx⟩ := bcell hx); go_simp; first | done | rfl
        simp only [Act.put, List.setIfInBounds_toArray, List.set_cons_succ, List.set_cons_zero]
      refine fin_tail (fun w1 hx1 _ => ?_)
      simp only [dstOf, List.getElem?_cons_succ, List.getElem?_cons_zero, Option.bind_some, Act.put, List.setIfInBounds_toArray, List.set_cons_succ, List.set_cons_zero, List.filterMap_cons, List.filterMap_nil]
      go_wp2_with (go_at_call 86; refine (l12Do_v c s1 s xs[k] false _ (hO.ext hx1) HS1.out (HF.out _ (List.getElem_mem _)) ⟨HE1.out, HE2.out⟩).mono ?_; rintro e2 w2 ⟨rfl, hC2, hO2⟩; have HC2 := Lib.hid (hC.trans (Chg.trans (Chg.of_ext hx1) hC2)); have HO2 := Lib.hid hO2; replace G0 := hC2.keep (keep_ext hx1 G0) (HNB.out _ (by omega)); replace G1 := hC2.keep (keep_ext hx1 G1) (HNB.out _ (by omega)); clear hC2 hO2 g0 gf0 g1 gf1; obtain ⟨g0, gf0⟩ := cellsK G0; obtain ⟨g1, gf1⟩ := cellsK G1)
      obtain ⟨hl1, hl2⟩ := doStep_len s1 xs[k] false
      refine ⟨⟨k + 1, doStep s1 xs[k] false, by omega, .inl (by omega), by go_num, ?_, ?_, Lib.hid (HS1.out.step (HF.out _ (List.getElem_mem _)) false), Lib.hid (hl1.trans HE1.out), Lib.hid (hl2.trans HE2.out), HR, hgo (by (repeat (first | with_reducible apply hg_here | (with_reducible apply hg_set; focus (dsimp only; omega)) | with_reducible apply hg_alloc)); with_reducible exact G0) ?_, (by (repeat (first | with_reducible apply hg_here | (with_reducible apply hg_set; focus (dsimp only; omega)) | with_reducible apply hg_alloc)); with_reducible exact G1)⟩, by simp [intOf]; omega⟩
      · have hc := HC2.out
        ((repeat (first | with_reducible (refine Chg.set2 ?_ ?_); focus (exact Or.inr (by dsimp only; omega)) | with_reducible refine Chg.alloc2 ?_)); with_reducible exact hc)
      · have ho := HO2.out
        ((repeat (first | (with_reducible apply OwnS.set2; focus (exact HNB.out _ (by dsimp only; omega))) | with_reducible apply OwnS.alloc2)); with_reducible exact ho)
      · simp
    · have hsA : s1 = A := by
        have := HR.out
        rw [List.drop_eq_nil_of_le (by simp; omega)] at this
        exact this
      subst hsA
      clear HR HA
      cases torn with
      | false =>
        go_wp2_with fail
        all_goals
          refine bodyPost_ret (v := .agg #[c.fv s, c.dv s]) (by simp [results, Tryz.results57, go_sem, g0, gf0, g1, gf1]) rfl ?_
          have hr : RR = s1 := by rw [HQ.out]; simp
          rw [hr]
          obtain ⟨q1, q2⟩ := SC.same (c := c) (⟨HE1.out, HE2.out⟩)
          refine ⟨by rw [q1, q2], ?_, ?_⟩
          · have hc := hC
            ((repeat (first | with_reducible (refine Chg.set2 ?_ ?_); focus (exact Or.inr (by dsimp only; omega)) | with_reducible refine Chg.alloc2 ?_)); with_reducible exact hc)
          · have ho := hO
            ((repeat (first | (with_reducible apply OwnS.set2; focus (exact HNB.out _ (by dsimp only; omega))) | with_reducible apply OwnS.alloc2)); with_reducible exact ho)
      | true =>
        cases hin : inB cut 0 ((xs.length : Int) - 1) with
        | false =>
          have HI := Lib.hid hin; clear hin
          go_wp2_with (go_at_call 55; refine (l6In_c _ _ _ _).mono ?_; rintro e1 w1 ⟨rfl, rfl⟩; rw [HI.out])
          all_goals
            refine bodyPost_ret (v := .agg #[c.fv s, c.dv s]) (by simp [results, Tryz.results57, go_sem, g0, gf0, g1, gf1]) rfl ?_
            have hr : RR = s1 := by rw [HQ.out, if_neg (by have := inB_no.1 HI.out; simp; omega)]
            rw [hr]
            obtain ⟨q1, q2⟩ := SC.same (c := c) (⟨HE1.out, HE2.out⟩)
            refine ⟨by rw [q1, q2], ?_, ?_⟩
            · have hc := hC
              ((repeat (first | with_reducible (refine Chg.set2 ?_ ?_); focus (exact Or.inr (by dsimp only; omega)) | with_reducible refine Chg.alloc2 ?_)); with_reducible exact hc)
            · have ho := hO
              ((repeat (first | (with_reducible apply OwnS.set2; focus (exact HNB.out _ (by dsimp only; omega))) | with_reducible apply OwnS.alloc2)); with_reducible exact ho)
        | true =>
          have hcb := inB_iff.1 hin
          obtain ⟨n, rfl⟩ : ∃ n : Nat, cut = n := ⟨cut.toNat, by omega⟩
          have hnl : n < xs.length := by omega
          have HI := Lib.hid hin; clear hin
          obtain ⟨b, o, rfl, hb, e0, e1, e2, e3, e4, e5, e6, e7⟩ := (hx.chg hC).at8 hnl
          obtain ⟨hb1, hb2⟩ := hb
          go_wp2_with (go_at_call 55; refine (l6In_c _ _ _ _).mono ?_; rintro e1 w1 ⟨rfl, rfl⟩; rw [HI.out])
          all_goals
            refine wp_region_ext [] [0, 1, 2, 3, 4] [] [5, 6] (by kernel_rfl) (by kernel_rfl) ?late ?_
            case late => exact fun f hf => absurd hf List.not_mem_nil
            refine Rob.y (v := ?_) rfl rfl (fun w1 hx hH => ?_) ?_; rotate_left
            · (obtain ⟨hcx, hfx⟩ := bcell hx); go_simp; first | done | rfl
            simp only [Act.put, List.setIfInBounds_toArray, List.set_cons_succ, List.set_cons_zero]
            iterate 2
              refine Rob.y (v := ?_) rfl rfl (fun w1 hx hH => ?_) ?_; rotate_left
              · go_simp; first | done | rfl | exact (Bool.not_not _).symm
              simp only [Act.put, List.setIfInBounds_toArray, List.set_cons_succ, List.set_cons_zero]
            iterate 2
              refine Rob.y (v := ?_) rfl rfl (fun w1 hx hH => ?_) ?_; rotate_left
              · (obtain ⟨hcx, hfx⟩ := bcell hx); go_simp; first | done | rfl
              simp only [Act.put, List.setIfInBounds_toArray, List.set_cons_succ, List.set_cons_zero]
            refine fin_tail (fun w1 hx1 _ => ?_)
            simp only [dstOf, List.getElem?_cons_succ, List.getElem?_cons_zero, Option.bind_some, Act.put, List.setIfInBounds_toArray, List.set_cons_succ, List.set_cons_zero, List.filterMap_cons, List.filterMap_nil]
            go_wp2_with (go_at_call 86; refine (l12Do_v c s1 s xs[n] true _ (hO.ext hx1) HS1.out (HF.out _ (List.getElem_mem _)) ⟨HE1.out, HE2.out⟩).mono ?_; rintro e2 w2 ⟨rfl, hC2, hO2⟩; have HC2 := Lib.hid (hC.trans (Chg.trans (Chg.of_ext hx1) hC2)); have HO2 := Lib.hid hO2; replace G0 := hC2.keep (keep_ext hx1 G0) (HNB.out _ (by omega)); replace G1 := hC2.keep (keep_ext hx1 G1) (HNB.out _ (by omega)); clear hC2 hO2 g0 gf0 g1 gf1; obtain ⟨g0, gf0⟩ := cellsK G0; obtain ⟨g1, gf1⟩ := cellsK G1)
            obtain ⟨hl1, hl2⟩ := doStep_len s1 xs[n] true
            refine bodyPost_ret (v := .agg #[c.fv s, c.dv s]) (by simp [results, Tryz.results57, go_sem, g0, gf0, g1, gf1]) rfl ?_
            have hr : RR = doStep s1 xs[n] true := by rw [HQ.out, if_pos (by simp; omega)]; simp [List.getElem?_eq_getElem hnl]
            rw [hr]
            obtain ⟨q1, q2⟩ := SC.same (c := c) (⟨hl1.trans HE1.out, hl2.trans HE2.out⟩)
            refine ⟨by rw [q1, q2], ?_, ?_⟩
            · have hc := HC2.out
              ((repeat (first | with_reducible (refine Chg.set2 ?_ ?_); focus (exact Or.inr (by dsimp only; omega)) | with_reducible refine Chg.alloc2 ?_)); with_reducible exact hc)
            · have ho := HO2.out
              ((repeat (first | (with_reducible apply OwnS.set2; focus (exact HNB.out _ (by dsimp only; omega))) | with_reducible apply OwnS.alloc2)); with_reducible exact ho)
end Go.Bu

set_option linter.unusedVariables false
set_option linter.unusedSimpArgs false
namespace Go.Bu
open Go Go.RowKit Go.Plan Go.Proofs

def ordB (prev : Bool) : List Page → Bool
  | [] => true
  | p :: ps => !(prev && p.state != 0) && ordB (p.state == 0) ps
def seqOf (p : Page) : Option Int := if p.state = 1 then some p.r.seq else none
def pseqs (ps : List Page) : List Int := ps.filterMap seqOf
def seqs (f : List Block) : List Int := f.flatMap fun b => pseqs b.pages
def fresh (L : List Int) : List Int → Bool
  | [] => true
  | x :: xs => !L.contains x && fresh (x :: L) xs
def blockB (b : Block) : Bool := b.pages.length == 4 && inB b.worn 0 200 && b.pages.all pageOkB && ordB false b.pages

theorem scanP_eq : ∀ (ps : List Page) (prev : Bool) (L : List Int), scanP prev L ps = if ps.all pageOkB && ordB prev ps && fresh L (pseqs ps) then some ((pseqs ps).reverse ++ L) else none
  | [], prev, L => by simp [scanP, ordB, pseqs, fresh]
  | p :: ps, prev, L => by
    rw [scanP, scanP_eq ps]
    by_cases h1 : p.state = 1
    · have hq : pseqs (p :: ps) = p.r.seq :: pseqs ps := by simp [pseqs, seqOf, h1]
      rw [hq]
      simp only [h1, ordB, fresh, List.all_cons, List.reverse_cons, List.append_assoc]
      by_cases hp : pageOkB p = true <;> cases prev <;> by_cases hc : p.r.seq ∈ L <;> simp [hp, hc]
    · have hq : pseqs (p :: ps) = pseqs ps := by simp [pseqs, seqOf, h1]
      rw [hq]
      have hb : (p.state == 1) = false := by simpa using h1
      simp only [hb, ordB, List.all_cons]
      by_cases hp : pageOkB p = true <;> cases prev <;> by_cases hz : p.state = 0 <;> simp [hp, hz]

theorem fresh_append : ∀ (a b L : List Int), fresh L (a ++ b) = (fresh L a && fresh (a.reverse ++ L) b)
  | [], b, L => by simp [fresh]
  | x :: a, b, L => by simp [fresh, fresh_append a, Bool.and_assoc]

theorem scanF_eq : ∀ (f : List Block) (L : List Int), scanF L f = if f.all blockB && fresh L (seqs f) then some ((seqs f).reverse ++ L) else none
  | [], L => by simp [scanF, seqs, fresh]
  | b :: f, L => by
    have hq : seqs (b :: f) = pseqs b.pages ++ seqs f := by simp [seqs]
    rw [scanF, scanP_eq, hq, fresh_append]
    simp only [List.all_cons, blockB]
    by_cases h4 : b.pages.length = 4
    · by_cases hw : inB b.worn 0 200 = true
      · rw [if_neg (by simp [h4, hw])]
        rcases Bool.eq_false_or_eq_true (b.pages.all pageOkB) with h1 | h1 <;> rcases Bool.eq_false_or_eq_true (ordB false b.pages) with h2 | h2 <;> rcases Bool.eq_false_or_eq_true (fresh L (pseqs b.pages)) with h3 | h3 <;>
          simp [-List.all_eq_true, -List.all_eq_false, h1, h2, h3, h4, hw, scanF_eq f]
      · simp [h4, hw]
    · simp [h4]

theorem flashOkB_eq (f : List Block) : flashOkB f = (f.length == 4 && f.all blockB && fresh [] (seqs f)) := by
  unfold flashOkB
  rw [scanF_eq]
  split <;> simp_all

theorem fresh_iff : ∀ (xs L : List Int), fresh L xs = true ↔ xs.Nodup ∧ ∀ x ∈ xs, x ∉ L
  | [], L => by simp [fresh]
  | x :: xs, L => by
    rw [fresh, Bool.and_eq_true, fresh_iff xs]
    simp
    constructor
    · rintro ⟨h1, h2, h3⟩
      exact ⟨⟨fun h => absurd rfl (h3 x h).1, h2⟩, h1, fun y hy => (h3 y hy).2⟩
    · rintro ⟨⟨h1, h2⟩, h3, h4⟩
      exact ⟨h3, h2, fun y hy => ⟨fun e => h1 (e ▸ hy), h4 y hy⟩⟩

structure FlashOk (f : List Block) : Prop where
  len : f.length = 4
  blocks : ∀ b ∈ f, blockB b = true
  nd : (seqs f).Nodup
theorem flashOk_iff {f : List Block} : flashOkB f = true ↔ FlashOk f := by
  rw [flashOkB_eq]
  simp only [Bool.and_eq_true, beq_iff_eq, List.all_eq_true, fresh_iff]
  exact ⟨fun ⟨⟨h1, h2⟩, h3, _⟩ => ⟨h1, h2, h3⟩, fun ⟨h1, h2, h3⟩ => ⟨⟨h1, h2⟩, h3, fun _ _ h => by cases h⟩⟩

theorem blockB_iff {b : Block} : blockB b = true ↔ b.pages.length = 4 ∧ 0 ≤ b.worn ∧ b.worn ≤ 200 ∧ (∀ p ∈ b.pages, pageOkB p = true) ∧ ordB false b.pages = true := by
  simp only [blockB, Bool.and_eq_true, beq_iff_eq, inB_iff, List.all_eq_true]
  exact ⟨fun ⟨⟨⟨h1, h2, h3⟩, h4⟩, h5⟩ => ⟨h1, h2, h3, h4, h5⟩, fun ⟨h1, h2, h3, h4, h5⟩ => ⟨⟨⟨h1, h2, h3⟩, h4⟩, h5⟩⟩

/-! ### pages in order: the free ones last -/
theorem ordB_true : ∀ (ps : List Page), ordB true ps = true ↔ ∀ p ∈ ps, p.state = 0
  | [] => by simp [ordB]
  | p :: ps => by
    simp only [ordB, Bool.true_and, Bool.and_eq_true, Bool.not_eq_true', bne_eq_false_iff_eq]
    constructor
    · rintro ⟨h1, h2⟩
      rw [h1] at h2
      have := (ordB_true ps).1 h2
      simpa [h1] using this
    · intro h
      have h1 := h p (by simp)
      refine ⟨h1, ?_⟩
      rw [h1]; exact (ordB_true ps).2 fun q hq => h q (by simp [hq])

/-- pages in order are some that are not free, and then free ones -/
theorem ordB_split : ∀ (ps : List Page), ordB false ps = true ↔ ∃ k, k ≤ ps.length ∧ (∀ p ∈ ps.take k, p.state ≠ 0) ∧ ∀ p ∈ ps.drop k, p.state = 0
  | [] => by simp [ordB]
  | p :: ps => by
    simp only [ordB, Bool.false_and, Bool.not_false, Bool.true_and]
    by_cases h0 : p.state = 0
    · rw [show (p.state == 0) = true from by simpa using h0, ordB_true]
      constructor
      · intro h; exact ⟨0, by simp, by simp, by simpa [h0] using h⟩
      · rintro ⟨k, hk, h1, h2⟩
        cases k with
        | zero => intro q hq; exact h2 q (by simp [hq])
        | succ k => exact absurd h0 (h1 p (by simp))
    · rw [show (p.state == 0) = false from by simpa using h0, ordB_split ps]
      constructor
      · rintro ⟨k, hk, h1, h2⟩; exact ⟨k + 1, by simpa using hk, by simpa [h0] using h1, by simpa using h2⟩
      · rintro ⟨k, hk, h1, h2⟩
        cases k with
        | zero => exact absurd (h2 p (by simp)) h0
        | succ k => exact ⟨k, by simpa using hk, fun q hq => h1 q (by simp [hq]), by simpa using h2⟩

theorem cleanN_append (a b : List Page) : cleanN (a ++ b) = cleanN a + cleanN b := by
  have : ∀ (ps : List Page) (n : Int), ps.foldl cleanStep n = n + ps.foldl cleanStep 0 := by
    intro ps
    induction ps with
    | nil => intro n; simp
    | cons p ps ih =>
      intro n
      simp only [List.foldl_cons]
      rw [ih, ih (cleanStep 0 p)]
      unfold cleanStep; split <;> omega
  unfold cleanN
  rw [List.foldl_append, this b]
theorem cleanN_none {ps : List Page} (h : ∀ p ∈ ps, p.state ≠ 0) : cleanN ps = 0 := by
  induction ps with
  | nil => rfl
  | cons p ps ih =>
    have : cleanN (p :: ps) = cleanN [p] + cleanN ps := cleanN_append [p] ps
    rw [this, ih fun q hq => h q (by simp [hq])]
    simp [cleanN, cleanStep, h p (by simp)]
theorem cleanN_all {ps : List Page} (h : ∀ p ∈ ps, p.state = 0) : cleanN ps = ps.length := by
  induction ps with
  | nil => rfl
  | cons p ps ih =>
    have : cleanN (p :: ps) = cleanN [p] + cleanN ps := cleanN_append [p] ps
    rw [this, ih fun q hq => h q (by simp [hq])]
    simp [cleanN, cleanStep, h p (by simp)]; omega

/-- where the free pages begin -/
theorem free_at {ps : List Page} (h4 : ps.length = 4) (ho : ordB false ps = true) : (∀ p ∈ ps.take (4 - (cleanN ps).toNat), p.state ≠ 0) ∧ (∀ p ∈ ps.drop (4 - (cleanN ps).toNat), p.state = 0) ∧ 0 ≤ cleanN ps ∧ cleanN ps ≤ 4 := by
  obtain ⟨k, hk, h1, h2⟩ := (ordB_split ps).1 ho
  have hc : cleanN ps = ((4 - k : Nat) : Int) := by
    conv => lhs; rw [← List.take_append_drop k ps]
    rw [cleanN_append, cleanN_none h1, cleanN_all h2]; simp; omega
  rw [hc]
  have : 4 - ((4 - k : Nat) : Int).toNat = k := by omega
  rw [this]
  exact ⟨h1, h2, by omega, by omega⟩
end Go.Bu

set_option linter.unusedVariables false
set_option linter.unusedSimpArgs false
namespace Go.Bu
open Go Go.RowKit Go.Plan Go.Proofs

theorem pseqs_append (a b : List Page) : pseqs (a ++ b) = pseqs a ++ pseqs b := List.filterMap_append
theorem seqs_append (a b : List Block) : seqs (a ++ b) = seqs a ++ seqs b := List.flatMap_append
theorem split_at {α : Type} (xs : List α) (i : Nat) (h : i < xs.length) : xs = xs.take i ++ xs[i] :: xs.drop (i + 1) := by
  conv => lhs; rw [← List.take_append_drop i xs, List.drop_eq_getElem_cons h]
theorem set_at {α : Type} (xs : List α) (i : Nat) (h : i < xs.length) (y : α) : xs.set i y = xs.take i ++ y :: xs.drop (i + 1) := by
  rw [List.set_eq_take_append_cons_drop, if_pos h]
theorem seqs_at (f : List Block) (i : Nat) (h : i < f.length) : seqs f = seqs (f.take i) ++ (pseqs f[i].pages ++ seqs (f.drop (i + 1))) := by
  conv => lhs; rw [split_at f i h]
  rw [seqs_append]; rfl
theorem seqs_set (f : List Block) (i : Nat) (h : i < f.length) (b : Block) : seqs (f.set i b) = seqs (f.take i) ++ (pseqs b.pages ++ seqs (f.drop (i + 1))) := by
  rw [set_at f i h, seqs_append]; rfl
theorem pseqs_cons (p : Page) (ps : List Page) : pseqs (p :: ps) = (seqOf p).toList ++ pseqs ps := by
  unfold pseqs; rw [List.filterMap_cons]; cases seqOf p <;> rfl
theorem pseqs_at (ps : List Page) (k : Nat) (h : k < ps.length) : pseqs ps = pseqs (ps.take k) ++ ((seqOf ps[k]).toList ++ pseqs (ps.drop (k + 1))) := by
  conv => lhs; rw [split_at ps k h]
  rw [pseqs_append, pseqs_cons]
theorem pseqs_set (ps : List Page) (k : Nat) (h : k < ps.length) (p : Page) : pseqs (ps.set k p) = pseqs (ps.take k) ++ ((seqOf p).toList ++ pseqs (ps.drop (k + 1))) := by
  rw [set_at ps k h, pseqs_append, pseqs_cons]

theorem mem_pseqs {ps : List Page} {n : Int} : n ∈ pseqs ps ↔ ∃ p ∈ ps, p.state = 1 ∧ p.r.seq = n := by
  unfold pseqs seqOf
  rw [List.mem_filterMap]
  constructor
  · rintro ⟨p, hp, h⟩
    split at h
    · exact ⟨p, hp, ‹_›, Option.some.inj h⟩
    · cases h
  · rintro ⟨p, hp, h1, h2⟩
    exact ⟨p, hp, by rw [if_pos h1, h2]⟩
theorem mem_seqs {f : List Block} {n : Int} : n ∈ seqs f ↔ ∃ b ∈ f, ∃ p ∈ b.pages, p.state = 1 ∧ p.r.seq = n := by
  unfold seqs
  rw [List.mem_flatMap]
  constructor
  · rintro ⟨b, hb, h⟩; exact ⟨b, hb, mem_pseqs.1 h⟩
  · rintro ⟨b, hb, h⟩; exact ⟨b, hb, mem_pseqs.2 h⟩
theorem seqUsed_iff {f : List Block} {n : Int} : seqUsed f n = true ↔ n ∈ seqs f := by
  rw [mem_seqs]
  unfold seqUsed isSeq
  simp only [List.any_eq_true, Bool.and_eq_true, beq_iff_eq]

theorem FlashOk.bl {f : List Block} (h : FlashOk f) {i : Nat} (hi : i < 4) : ∃ hl : i < f.length, blockB f[i] = true :=
  ⟨by rw [h.len]; exact hi, h.blocks _ (List.getElem_mem _)⟩

theorem blockB_free {b : Block} (h : blockB b = true) : (∀ p ∈ b.pages.take (4 - (cleanN b.pages).toNat), p.state ≠ 0) ∧ (∀ p ∈ b.pages.drop (4 - (cleanN b.pages).toNat), p.state = 0) ∧ 0 ≤ cleanN b.pages ∧ cleanN b.pages ≤ 4 := by
  obtain ⟨h1, h2, h3, h4, h5⟩ := blockB_iff.1 h
  exact free_at h1 h5

theorem pageW_ok {r : Rec} (hr : recOkB r = true) (t : Bool) : pageOkB (pageW r t) = true ∧ (pageW r t).state ≠ 0 := by
  cases t
  · exact ⟨by simp [pageW, pageOkB, hr], by simp [pageW]⟩
  · exact ⟨by simp [pageW, pageOkB, recZ, rec0], by simp [pageW]⟩

/-- the first free page of a block, written -/
theorem blockB_write {b : Block} (h : blockB b = true) {p : Page} (hp : pageOkB p = true) (hs : p.state ≠ 0) (hc : cleanN b.pages ≠ 0) : blockB ⟨b.pages.set (4 - (cleanN b.pages).toNat) p, b.worn⟩ = true := by
  obtain ⟨h1, h2, h3, h4, h5⟩ := blockB_iff.1 h
  obtain ⟨f1, f2, f3, f4⟩ := blockB_free h
  generalize hk : 4 - (cleanN b.pages).toNat = k at *
  have hk4 : k < b.pages.length := by omega
  refine blockB_iff.2 ⟨by simpa using h1, h2, h3, fun q hq => ?_, (ordB_split _).2 ⟨k + 1, by simp; omega, fun q hq => ?_, fun q hq => ?_⟩⟩
  · rcases mem_set hq with hq | rfl
    · exact h4 q hq
    · exact hp
  · rw [set_at _ _ hk4, List.take_append] at hq
    simp at hq
    rcases hq with hq | hq
    · exact f1 q (List.mem_of_mem_take hq)
    · have : min k b.pages.length = k := by omega
      rw [this] at hq
      simp at hq
      rw [hq]; exact hs
  · rw [set_at _ _ hk4, List.drop_append] at hq
    have hm : (b.pages.take k).length = k := by simp; omega
    rw [hm, List.drop_eq_nil_of_le (by omega), show k + 1 - k = 1 by omega] at hq
    simp only [List.nil_append, List.drop_succ_cons, List.drop_zero] at hq
    exact f2 q (by rw [List.drop_eq_getElem_cons hk4]; exact List.mem_cons_of_mem _ hq)

theorem clean_seq {p : Page} (h : p.state = 0) : seqOf p = none := by unfold seqOf; rw [if_neg (by omega)]

theorem FlashOk.write {f : List Block} (h : FlashOk f) {i : Nat} (hi : i < 4) {r : Rec} (hr : recOkB r = true) (t : Bool) : FlashOk (writeF f i r t) := by
  obtain ⟨hl, hb⟩ := h.bl hi
  unfold writeF writeOk
  rw [blockAt_get hl]
  split
  · rename_i hc
    simp only [Bool.not_eq_true', Bool.or_eq_false_iff, decide_eq_false_iff_not] at hc
    obtain ⟨hc, hs⟩ := hc
    obtain ⟨p1, p2⟩ := pageW_ok hr t
    obtain ⟨f1, f2, f3, f4⟩ := blockB_free hb
    have h4 := (blockB_iff.1 hb).1
    refine ⟨by simpa using h.len, fun b hm => ?_, ?_⟩
    · rcases mem_set hm with hm | rfl
      · exact h.blocks b hm
      · exact blockB_write hb p1 p2 hc
    · have hk4 : 4 - (cleanN f[i].pages).toNat < f[i].pages.length := by omega
      have hnd := h.nd
      have hz : seqOf f[i].pages[4 - (cleanN f[i].pages).toNat] = none := clean_seq (f2 _ (by rw [List.drop_eq_getElem_cons hk4]; exact List.mem_cons_self))
      rw [seqs_at f i hl, pseqs_at _ _ hk4, hz] at hnd
      rw [seqs_set f i hl, pseqs_set _ _ hk4]
      cases t
      · have hn : r.seq ∉ seqs f := fun hm => by rw [seqUsed_iff.2 hm] at hs; cases hs
        rw [seqs_at f i hl, pseqs_at _ _ hk4, hz] at hn
        simp only [Option.toList_none, List.nil_append] at hn hnd
        have hq : seqOf (pageW r false) = some r.seq := rfl
        rw [hq]
        simp only [Option.toList_some, List.singleton_append]
        rw [List.append_assoc, List.cons_append, ← List.append_assoc (seqs _) (pseqs _)]
        rw [List.append_assoc, ← List.append_assoc (seqs _) (pseqs _)] at hn hnd
        exact (List.perm_middle.nodup_iff).2 (List.nodup_cons.2 ⟨hn, hnd⟩)
      · have hq : seqOf (pageW r true) = none := rfl
        rw [hq]; exact hnd
  · exact h

theorem FlashOk.wipe {f : List Block} (h : FlashOk f) {i : Nat} (hi : i < 4) (t : Bool) : FlashOk (wipeF f i t) := by
  obtain ⟨hl, hb⟩ := h.bl hi
  unfold wipeF
  rw [blockAt_get hl]
  split
  · exact h
  · rename_i hw
    obtain ⟨h1, h2, h3, h4, h5⟩ := blockB_iff.1 hb
    have hbl : ∀ st, (blank st).r = rec0 := fun _ => rfl
    refine ⟨by simpa using h.len, fun b hm => ?_, ?_⟩
    · rcases mem_set hm with hm | rfl
      · exact h.blocks b hm
      · refine blockB_iff.2 ⟨rfl, by dsimp only; omega, by dsimp only; omega, fun p hp => ?_, ?_⟩
        · obtain rfl := List.eq_of_mem_replicate hp
          cases t <;> rfl
        · cases t <;> rfl
    · have hnd := h.nd
      rw [seqs_at f i hl] at hnd
      rw [seqs_set f i hl]
      refine List.Nodup.sublist ?_ hnd
      refine List.Sublist.append (List.Sublist.refl _) (List.Sublist.append ?_ (List.Sublist.refl _))
      have : pseqs (List.replicate 4 (blank (tornSt t))) = [] := by cases t <;> rfl
      rw [this]; exact List.nil_sublist _

/-- a step that is valid -/
structure StepOk (x : Step) : Prop where
  fit : Fit x
  r : x.kind = 3 → recOkB x.r = true
theorem StoreP.step {s : Store} (h : StoreP s) {x : Step} (hx : StepOk x) (t : Bool) : StoreP (doStep s x t) := by
  have hf := flashOk_iff.1 h.flash
  unfold doStep
  by_cases h1 : x.kind = 1
  · rw [if_pos h1]; split
    · exact h
    · exact ⟨h.flash, by simp [h.disk]⟩
  · have hb := hx.fit.block h1
    rw [if_neg h1]; split
    · exact ⟨flashOk_iff.2 (hf.wipe (by omega) t), h.disk⟩
    · split
      · exact ⟨flashOk_iff.2 (hf.write (by omega) (hx.r ‹_›) t), h.disk⟩
      · exact h
theorem StoreP.shape {s : Store} (h : StoreP s) : Shape s :=
  ⟨flashOk_len h.flash, fun b hb => (flashOk_block h.flash hb).1, fun b hb => by have := flashOk_block h.flash hb; omega, h.disk⟩
theorem StoreP.all {xs : List Step} {s : Store} (h : StoreP s) (hx : ∀ x ∈ xs, StepOk x) : StoreP (doAll s xs) :=
  foldl_inv (fun s x => doStep s x false) StoreP xs s h fun s x hm hs => hs.step (hx x hm) false
theorem StoreP.to {xs : List Step} {s : Store} (h : StoreP s) (hx : ∀ x ∈ xs, StepOk x) (cut : Int) (t : Bool) : StoreP (toSteps s xs cut t) := by
  have h1 := h.all (xs := xs.take cut.toNat) fun x hm => hx x (List.mem_of_mem_take hm)
  unfold toSteps
  split
  · rename_i hc
    simp only [Bool.and_eq_true, decide_eq_true_eq] at hc
    have hl : cut.toNat < xs.length := by omega
    rw [List.getElem?_eq_getElem hl]
    exact h1.step (hx _ (List.getElem_mem _)) true
  · exact h1

theorem openScan_lt (f : List Block) : ∀ (rest : List Block) (i : Nat) (out : Int), i + rest.length = f.length → -1 ≤ out → out < f.length → (openScan f i out rest).2 = true → 0 ≤ (openScan f i out rest).1 ∧ (openScan f i out rest).1 < f.length
  | [], i, out, hl, h0, h1, h2 => by
    simp only [openScan, decide_eq_true_eq] at h2 ⊢
    split <;> omega
  | b :: rest, i, out, hl, h0, h1, h2 => by
    simp only [List.length_cons] at hl
    rw [openScan] at h2 ⊢
    split
    · dsimp only; omega
    · rename_i hc
      rw [if_neg hc] at h2
      refine openScan_lt f rest (i + 1) _ (by omega) ?_ ?_ h2
      · unfold openStep; split <;> omega
      · unfold openStep; split <;> omega
theorem openB_lt {f : List Block} (h : (openB f).2 = true) : 0 ≤ (openB f).1 ∧ (openB f).1 < f.length := openScan_lt f f 0 (-1) (by simp) (by omega) (by omega) h

theorem liveP_ok {f : List Block} (h : FlashOk f) {b : Block} (hb : b ∈ f) {p : Page} (hp : p ∈ b.pages) (hl : p.state = 1) : recOkB p.r = true := by
  have := (blockB_iff.1 (h.blocks b hb)).2.2.2.1 p hp
  unfold pageOkB at this
  rwa [if_pos hl] at this
theorem recOkB_iff {r : Rec} : recOkB r = true ↔ (1 ≤ r.kind ∧ r.kind ≤ 2) ∧ (1 ≤ r.seq ∧ r.seq ≤ 600) ∧ (1 ≤ r.addr ∧ r.addr ≤ 6) ∧ (0 ≤ r.val ∧ r.val ≤ 9) := by
  simp only [recOkB, Bool.and_eq_true, inB_iff, and_assoc]

theorem roomSteps_ok {f : List Block} (h : FlashOk f) {b : Block} (hb : b ∈ f) : ∀ x ∈ roomSteps f b.pages, StepOk x ∧ x.kind = 1 := by
  intro x hx
  obtain ⟨p, hp, hm⟩ := List.mem_flatMap.1 hx
  unfold roomOne at hm
  split at hm
  · rename_i hc
    obtain rfl := List.mem_singleton.1 hm
    have h1 : p.state = 1 := by have := hc.1; simp only [liveP, Bool.and_eq_true, beq_iff_eq] at this; exact this.1
    have hr := recOkB_iff.1 (liveP_ok h hb hp h1)
    exact ⟨⟨⟨fun _ => hr.2.2.1, fun h => absurd rfl h⟩, fun h => (by cases h)⟩, rfl⟩
  · cases hm
theorem room_block {f : List Block} (h : FlashOk f) : 0 ≤ (room f).2.1 ∧ (room f).2.1 ≤ 3 := by
  have h4 := h.len
  unfold room
  split
  · rename_i hc; have := openB_lt hc; dsimp only; omega
  · have := old_lt (f := f) (by omega); dsimp only; omega
theorem room_ok {f : List Block} (h : FlashOk f) : ∀ x ∈ (room f).1, StepOk x := by
  have h4 := h.len
  unfold room
  split
  · intro x hx; cases hx
  · have ho := old_lt (f := f) (by omega)
    intro x hx
    rcases List.mem_append.1 hx with hx | hx
    · exact (roomSteps_ok h (blockAt_mem ho) x hx).1
    · obtain rfl := List.mem_singleton.1 hx
      exact ⟨⟨fun h => (by cases h), fun _ => by dsimp only; omega⟩, fun h => (by cases h)⟩
theorem write_ok {f : List Block} (h : FlashOk f) (kind addr val : Int) : ∀ x ∈ writeSteps f kind addr val, StepOk x := by
  unfold writeSteps
  split
  · rename_i hc
    simp only [Bool.and_eq_true] at hc
    intro x hx
    rcases List.mem_append.1 hx with hx | hx
    · exact room_ok h x hx
    · obtain rfl := List.mem_singleton.1 hx
      exact ⟨⟨fun h => (by cases h), fun _ => room_block h⟩, fun _ => hc.2⟩
  · intro x hx; cases hx
theorem flush_ok {s : Store} (h : FlashOk s.flash) {n : Nat} (hn : n < 6) : ∀ x ∈ flushSteps s n, StepOk x := by
  unfold flushSteps
  split
  · split
    · intro x hx; cases hx
    · intro x hx
      rcases List.mem_cons.1 hx with rfl | hx
      · exact ⟨⟨fun _ => by dsimp only; omega, fun h => absurd rfl h⟩, fun h => (by cases h)⟩
      · exact write_ok h _ _ _ x hx
  · intro x hx; cases hx
theorem fill_ok {s : Store} (h : FlashOk s.flash) (n : Nat) : ∀ x ∈ fillSteps s n, StepOk x := by
  unfold fillSteps
  split
  · intro x hx; cases hx
  · exact write_ok h _ _ _
theorem addrStep_ok {g : Nat → List Step} (h : ∀ n, n < 6 → ∀ x ∈ g n, StepOk x) (a : Int) : ∀ x ∈ addrStep g a, StepOk x := by
  unfold addrStep
  split
  · rename_i hc; have := inB_iff.1 hc; exact h _ (by omega)
  · intro x hx; cases hx
theorem play_ok {s : Store} (h : FlashOk s.flash) (e : Event) : ∀ x ∈ playSteps s e, StepOk x := by
  unfold playSteps putSteps
  split
  · exact write_ok h _ _ _
  · split
    · exact addrStep_ok (fun n hn => flush_ok h hn) _
    · split
      · exact addrStep_ok (fun n _ => fill_ok h n) _
      · intro x hx; cases hx
end Go.Bu

set_option linter.unusedVariables false
set_option linter.unusedSimpArgs false
namespace Go.Plan
open Go Go.RowKit

/-- the fence of a round of loop l, wide otherwise -/
abbrev Rnd (l : Nat) : Fence := Fence.wide.inRound l

def noDefer (ops : Array Oper) : Bool := ops.toList.all fun o => match o.op with | .defer _ => false | _ => true

theorem rows_in {P : Program} {l n : Nat} {row : String} {args : Array Value} {w : World} {R : Value → World → Prop} (h : Rows P row args w R) : RowsIn (Rnd l) n P row args w R := fun c cs _ => by
  obtain ⟨v, w', hR, hs⟩ := h c cs
  exact ⟨v, w', hR, stepsIn_wide.2 hs⟩
theorem calls_in {P : Program} {l n : Nat} {f : FuncId} {args : Array Value} {w : World} {R : Ending → World → Prop} (h : Calls P f args w R) : CallsIn (Rnd l) n P f args w R := CallsIn.inRound l (callsIn_wide.2 h)

/-- only the normal way out -/
def QN (K : Act → World → Prop) : Exit → Act → World → Prop
  | .normal, a, w => K a w
  | _, _, _ => False
theorem qn_mk {K : Act → World → Prop} {a : Act} {w : World} (h : K a w) : QN K .normal a w := h
theorem qn_out {K : Act → World → Prop} : ¬ LetsOut (QN K) := fun ⟨_, _, h⟩ => h

theorem oper_in {P : Program} {l n : Nat} {o : Oper} {a : Act} {w : World} {K K' : Act → World → Prop} {K0 : Act → World → Prop} {Q : Exit → Act → World → Prop} (hd : ∀ c, o.op ≠ .defer c) (hK : ∀ a w, K a w → K' a w)
    (h : o.wp P a w K (QN K0)) : o.wpIn (Rnd l) n P a w K' Q := by
  refine ⟨fun _ _ => trivial, ?_⟩
  rw [Oper.semAt_eq _ _ _ hd]
  unfold Oper.wp at h
  generalize (execOp a.eval o).run P w = r at *
  cases r with
  | ok x w' =>
    cases x <;> simp only [Oper.upon, Oper.uponIn] at h ⊢
    case value v => exact hK _ _ h
    case skip => exact hK _ _ h
    case defer d => exact hK _ _ h
    case enter f args => exact ⟨fun h => (by cases h), calls_in (Calls.mono h fun e w'' he => (by cases e <;> first | exact hK _ _ he | exact he.elim | exact (qn_out he).elim))⟩
    case row row args => exact ⟨fun h => (by cases h), rows_in (Rows.mono h fun _ _ he => hK _ _ he)⟩
  | halt x w' => cases x <;> simp only [Oper.upon, Oper.uponIn] at h ⊢ <;> exact h.elim

theorem any_in {P : Program} {l n : Nat} {md : Region.Mode} {ops : Array Oper} {Q : Exit → Act → World → Prop} (hd : noDefer ops = true) :
    ∀ (fuel : Nat) (listed : Array Bool) (a : Act) (w : World), wpAny P md ops (QN (Q .normal)) fuel listed a w → wpAnyIn (Rnd l) n P md ops Q fuel listed a w := by
  intro fuel
  induction fuel with
  | zero => exact fun _ _ _ h => h
  | succ fuel ih =>
    intro listed a w h
    refine ⟨h.1, fun i hi => ?_⟩
    have h1 := h.2 i hi
    unfold wpOp at h1
    unfold wpOpIn
    cases ho : ops[i]? with
    | none => rw [ho] at h1; exact ih _ _ _ h1
    | some o =>
      simp only [ho] at h1 ⊢
      have hdo : ∀ c, o.op ≠ .defer c := fun c e => by
        have hm : o ∈ ops.toList := by
          obtain ⟨hl, rfl⟩ := Array.getElem?_eq_some_iff.1 ho
          simp
        have := List.all_eq_true.1 hd o hm
        rw [e] at this; cases this
      by_cases hw : Region.wanted o (yielded ops a.tmps) = true
      · rw [if_pos hw] at h1 ⊢
        exact oper_in hdo (fun a w h => ih _ _ _ h) (h1.resolve_right fun h => qn_out h.2)
      · rw [if_neg hw] at h1 ⊢
        exact ⟨fun _ _ => trivial, ih _ _ _ h1⟩

section
variable {P : Program} {l : List Oper} {Q : Exit → Act → World → Prop} {lp n : Nat}

theorem wpIn_region_planM (ch heads : List Nat) (lates : Lates) (mid tail : List Nat) {id : Nat} {a : Act} {w : World} (hm : P.follows .mixedOrders = true)
    (hok : okPlanM l ch heads (lates.map (·.1)) mid tail = true) (hdf : noDefer l.toArray = true)
    (hlate : ∀ f ∈ lates, ∃ o, l[f.1]? = some o ∧ ∀ (a : Act) (w : World), (execOp a.eval o).run P w = .ok (.value (f.2.2 w.heap.size)) (w.alloc f.2.1))
    (S : World → Prop) (hS : S w.drew) (hst : ∀ w w', S w → Ext w w' → S w') (C : World → Prop) (hC : C w.drew) (hstC : ∀ w w', C w → Ext w w' → C w')
    (h : Rob P l ch w.heap.size (FinM P l (QN (Q .normal)) w.heap.size lates mid tail) heads S C [] w.heap.size a) : (Code.region id l.toArray true).wpIn (Rnd lp) n P Q a w := by
  obtain ⟨st, hSl, hT, hTo, hD⟩ := Static.of hok
  refine wpIn_region_any hm (any_in hdf _ _ _ _ ?_)
  have hun : ∀ i, ¬ On (Array.replicate l.toArray.size false) i := fun i => by
    unfold On; simp [Array.getD_eq_getD_getElem?, Array.getElem?_replicate]; split <;> simp
  refine rob_sound st hSl hT hTo hD hlate _ _ a w.drew [] heads S C [] w.heap.size a (fun _ => 0) ?_ ⟨rfl, h, by simp, fun i o _ hi => absurd hi (hun i), fun i hi => (by cases hi), fun i _ => hun i, fun i _ => hun i, hst, hS, hstC, hC, Nat.le_refl _, Nat.le_refl _, fun p hp => (by cases hp), rfl, rfl, fun t _ => rfl, fun f _ hf => absurd hf (hun _), fun f _ g _ hf => absurd hf (hun _)⟩
  unfold unl
  exact Nat.le_trans (List.length_filter_le _ _) (by simp)

theorem wpIn_region_ext (ch heads : List Nat) (lates : Lates) (tail : List Nat) {id : Nat} {a : Act} {w : World} (hm : P.follows .mixedOrders = true)
    (hok : okPlan l ch heads (lates.map (·.1)) tail = true) (hdf : noDefer l.toArray = true)
    (hlate : ∀ f ∈ lates, ∃ o, l[f.1]? = some o ∧ ∀ (a : Act) (w : World), (execOp a.eval o).run P w = .ok (.value (f.2.2 w.heap.size)) (w.alloc f.2.1))
    (h : Rob P l ch w.heap.size (Fin P l (QN (Q .normal)) w.heap.size lates tail) heads (Ext w) (fun _ => True) [] w.heap.size a) : (Code.region id l.toArray true).wpIn (Rnd lp) n P Q a w :=
  wpIn_region_planM ch heads lates [] tail hm hok hdf hlate (Ext w) (Below.refl _ _).drew (fun _ _ h1 h2 => ext_trans h1 h2) (fun _ => True) trivial (fun _ _ _ _ => trivial) h
end
end Go.Plan

set_option linter.unusedVariables false
set_option linter.unusedSimpArgs false
namespace Go.Bu
open Go Go.RowKit Go.Plan Go.Proofs Go.Shelf
attribute [local go_sem] Oper.semAt_some

/-- a page, and where it lies -/
abbrev Spot := Nat × Nat × Page
def page0 : Page := ⟨0, ⟨0, 0, 0, 0⟩⟩
def spB (i : Nat) (ps : List Page) (k : Nat) : List Spot := (List.range k).map fun j => (i, j, ps.getD j page0)
def spF (f : List Block) (i : Nat) : List Spot := (List.range i).flatMap fun a => spB a ((f[a]?).getD ⟨[], 0⟩).pages ((f[a]?).getD ⟨[], 0⟩).pages.length
theorem spB_succ (i : Nat) (ps : List Page) (k : Nat) (h : k < ps.length) : spB i ps (k + 1) = spB i ps k ++ [(i, k, ps[k])] := by
  unfold spB; rw [List.range_succ, List.map_append]; simp [List.getElem?_eq_getElem h]
theorem spF_succ (f : List Block) (i : Nat) (h : i < f.length) : spF f (i + 1) = spF f i ++ spB i f[i].pages f[i].pages.length := by
  unfold spF; rw [List.range_succ, List.flatMap_append]; simp [List.getElem?_eq_getElem h]
theorem spF_len_succ (f : List Block) (i : Nat) (h : i < f.length) : (spF f (i + 1)).length = (spF f i).length + f[i].pages.length := by rw [spF_succ f i h, List.length_append]; simp [spB]
theorem spF_le (f : List Block) {i j : Nat} (h : i ≤ j) (hj : j ≤ f.length) : (spF f i).length ≤ (spF f j).length := by
  induction j with
  | zero => obtain rfl : i = 0 := by omega
            exact Nat.le_refl _
  | succ j ih =>
    by_cases hij : i = j + 1
    · subst hij; exact Nat.le_refl _
    · have := ih (by omega) (by omega)
      rw [spF_len_succ f j (by omega)]; omega
def encS (x : Spot) : Array Value := #[.agg #[.int .i64 x.1, .int .i64 x.2.1], pageA x.2.2]

theorem grownBy_ext {w w' : World} (h : Ext w w') : w.grownBy w' none := ⟨h.os, h.tape, h.output, h.size, fun k hk _ => h.block k hk⟩

theorem eachPage_c (a : Option Addr) (n cap : Nat) (w : World) : Calls Tryz.prog 112 #[.slice a n cap] w fun e w' => e = .returned (.func (.func 134) #[] #[.pointer (some ⟨w.heap.size, 0, none⟩)]) ∧ w' = w.alloc (.cells #[.slice a n cap] 29) := by
  go_enter Tryz.func112, Tryz.ntmps112
  go_wp2
  go_ret
  exact ⟨rfl, rfl⟩

/-- it lies in f -/
def InF (f : List Block) (x : Spot) : Prop := ∃ b, f[x.1]? = some b ∧ b.pages[x.2.1]? = some x.2.2
abbrev SpotIn (f : List Block) := { x : Spot // InF f x }
/-- the blocks of D lie as they lay -/
def KpD (D : Nat → Prop) (W W' : World) : Prop := W.heap.size ≤ W'.heap.size ∧ Same D W W'
theorem KpD.trans {D : Nat → Prop} {a b c : World} (h : KpD D a b) (k : KpD D b c) : KpD D a c := ⟨Nat.le_trans h.1 k.1, fun i hi => (k.2 i hi).trans (h.2 i hi)⟩
theorem KpD.of_below {D : Nat → Prop} {n : Nat} {a b : World} (h : Below n a b) (hD : ∀ i, D i → i < n) : KpD D a b := ⟨h.size, fun i hi => h.block i (hD i hi)⟩
theorem KpD.of_chg {D : Nat → Prop} {L : List Nat} {a b : World} (h : Chg L a b) (hD : ∀ i, D i → i < a.heap.size ∧ i ∉ L) : KpD D a b := ⟨h.size, fun i hi => h.block i (hD i hi).1 (hD i hi).2⟩
theorem KpD.put {D : Nat → Prop} {w : World} (hD : ∀ i, D i → i < w.heap.size) (W : World) (l : Nat) (o o' : Obj) (hl : w.heap.size ≤ l) : KpD D W (W.putObj l o') :=
  ⟨by simp, fun i hi => World.putObj_heap_other (fun e => by have := hD i hi; omega)⟩

set_option maxRecDepth 20000 in
set_option maxHeartbeats 2000000 in
theorem each_stops (n : Nat) (hn : 1 ≤ n) (D : Nat → Prop) (B : Nat) (v : Value) (f : List Block) (w : World) (hB : w.cell? ⟨B, 0, none⟩ = some v) (hDB : D B) (hD : ∀ i, D i → i < w.heap.size) (hf : Flash D w v f) (hl : f.length ≤ 1048576) (hp : ∀ b ∈ f, b.pages.length ≤ 1048576) :
    SeqStopsK Fence.wide n Tryz.prog 134 #[.pointer (some ⟨B, 0, none⟩)] (fun x : SpotIn f => encS x.1) (KpD D) (fun xs => xs.map (·.1) = spF f f.length) (fun _ => True) (spF f f.length).length w := by
  intro l J Jx W hW hJ hJx hY h0
  have HP := Lib.hid hp
  have HY := Lib.hid hY
  have HJ := Lib.hid hJ
  have h00 : ∃ pre : List (SpotIn f), pre.map (·.1) = spF f 0 ∧ J pre W := ⟨[], rfl, h0⟩
  have H0 := Lib.hid h00
  clear hp hY hJ hJx h0 h00
  have hX0 := KpD.of_below hW hD
  have hBW : W.cell? ⟨B, 0, none⟩ = some v := by rw [cell_same hX0.2 hDB]; exact hB
  have HX0 := Lib.hid hX0
  clear hX0 hW
  obtain ⟨a, cap, rfl⟩ := hf.form
  refine callsIn_of_wp Tryz.func134 rfl trivial ?_ rfl
  simp only [Tryz.ntmps134, List.size_toArray, List.length_cons, List.length_nil, Nat.reduceAdd, Nat.reduceSub, Array.replicate_succ, Array.replicate_zero, List.push_toArray, List.append_toArray, List.nil_append, List.cons_append]
  gi_wp2
  gi_loopw [9] (fun y wr => ∃ i : Nat, i ≤ f.length ∧ y = .int .i64 i ∧ Hid (∃ pre : List (SpotIn f), pre.map (·.1) = spF f i ∧ J pre wr) ∧ Hid (KpD D w wr)) (fun y _ => f.length - (intOf y).toNat)
  case atStart => exact ⟨0, by omega, rfl, H0, HX0⟩
  case round =>
    clear H0 HX0 hBW
    obtain ⟨i, hi, rfl, HJi, HX⟩ := hrel
    by_cases hlt : i < f.length
    · obtain ⟨b, o, pv, rfl, hb, hpp, e0, e1⟩ := Flash.at2 (Sl.same blockE_kept hf HX.out.2 (fun _ h => h)) hlt
      obtain ⟨pa, pcap, rfl⟩ := hpp.form
      have hpl := HP.out f[i] (List.getElem_mem _)
      have hJB : ∃ pre : List (SpotIn f), pre.map (·.1) = spF f i ++ spB i f[i].pages 0 ∧ J pre (wr.alloc (.cells #[.slice pa f[i].pages.length pcap, .int .i64 f[i].worn] 109)) := by
        obtain ⟨pre, h1, h2⟩ := HJi.out
        exact ⟨pre, by rw [show spB i f[i].pages 0 = [] from rfl, List.append_nil]; exact h1, HJ.out _ _ _ none h2 (World.grownBy_alloc _ _ none) (fun r e => by cases e)⟩
      have HJB := Lib.hid hJB
      have hX2 : KpD D w (wr.alloc (.cells #[.slice pa f[i].pages.length pcap, .int .i64 f[i].worn] 109)) := HX.out.trans ⟨by simp, fun j hj => alloc_get_old (Nat.lt_of_lt_of_le (hD j hj) HX.out.1)⟩
      have HX2 := Lib.hid hX2
      have HPP := Lib.hid (Sl.same (plain_kept _) hpp (D' := D) (w' := wr) (fun _ _ => rfl) (fun _ h => h))
      have HS := Lib.hid HX.out.2
      clear hJB HJi HX hX2 hpp
      gi_wp2
      gi_loopw [17] (fun y wr2 => ∃ k : Nat, k ≤ f[i].pages.length ∧ y = .int .i64 k ∧ Hid (∃ pre : List (SpotIn f), pre.map (·.1) = spF f i ++ spB i f[i].pages k ∧ J pre wr2) ∧ Hid (KpD D w wr2)) (fun y _ => f[i].pages.length - (intOf y).toNat)
      case atStart => exact ⟨0, by omega, rfl, HJB, HX2⟩
      case round =>
        clear HJB HX2 e0 e1
        obtain ⟨k, hk, rfl, HJk, HX⟩ := hrel
        by_cases hkl : k < f[i].pages.length
        · obtain ⟨b2, o2, rfl, hb2, q0, q1, q2, q3, q4⟩ := Pages.at5 (Sl.same (plain_kept _) HPP.out (D' := D) (w' := wr) (fun j hj => (HX.out.2 j hj).trans (HS.out j hj).symm) (fun _ h => h)) hkl
          have hlen : (spF f i ++ spB i f[i].pages k).length < (spF f f.length).length := by
            have h1 := spF_len_succ f i hlt
            have h2 := spF_le f (i := i + 1) (j := f.length) (by omega) (Nat.le_refl _)
            rw [List.length_append]; simp only [spB, List.length_map, List.length_range]; omega
          obtain ⟨pre, hpre, hJp⟩ := HJk.out
          have hJP : J pre (wr.alloc (.cells (pageC f[i].pages[k]).toArray 126)) := HJ.out _ _ _ none hJp (World.grownBy_alloc _ _ none) (fun r e => by cases e)
          obtain ⟨fn, tmps, assign, body, hy, hR⟩ := HY.out pre ⟨(i, k, f[i].pages[k]), ⟨f[i], List.getElem?_eq_getElem hlt, List.getElem?_eq_getElem hkl⟩⟩ _ hJP (by rw [← List.length_map (·.1), hpre]; exact hlen)
          have HR := Lib.hid hR
          have HPRE : Hid ((pre ++ [⟨(i, k, f[i].pages[k]), ⟨f[i], List.getElem?_eq_getElem hlt, List.getElem?_eq_getElem hkl⟩⟩] : List (SpotIn f)).map (·.1) = spF f i ++ spB i f[i].pages (k + 1)) := Lib.hid (by rw [List.map_append, hpre, spB_succ i _ k hkl]; simp)
          have hXP : KpD D w (wr.alloc (.cells (pageC f[i].pages[k]).toArray 126)) := HX.out.trans ⟨by simp, fun j hj => alloc_get_old (Nat.lt_of_lt_of_le (hD j hj) HX.out.1)⟩
          have HXP := Lib.hid hXP
          clear hR hlen hJP hJp HJk hpre hXP HX
          dsimp only [encS] at hy
          gi_wp2
          refine HR.out.mono ?_
          rintro e W3 (⟨rfl, hJ3, hk3⟩ | ⟨rfl, hJx3⟩)
          · have HX3 := Lib.hid (HXP.out.trans hk3)
            have HJ3 : Hid (∃ pre : List (SpotIn f), pre.map (·.1) = spF f i ++ spB i f[i].pages (k + 1) ∧ J pre W3) := Lib.hid ⟨_, HPRE.out, hJ3⟩
            clear HR hy HXP hJ3 hk3 HPRE
            gi_wp2
            exact ⟨⟨k + 1, by omega, by go_num, HJ3, HX3⟩, by simp [intOf]; omega⟩
          · clear HR hy HXP HPRE
            gi_wp2
            refine bodyPost_ret (results_none rfl _ _ _) rfl ?_
            exact ⟨⟨_, rfl⟩, .inr ⟨_, trivial, hJx3⟩⟩
        · obtain rfl : k = f[i].pages.length := by omega
          rw [← spF_succ f i hlt] at HJk
          gi_wp2
          exact ⟨⟨i + 1, by omega, by go_num, HJk, HX⟩, by simp [intOf]; omega⟩
    · obtain rfl : i = f.length := by omega
      obtain ⟨pre, h1, h2⟩ := HJi.out
      gi_wp2
      go_end0
      exact ⟨⟨_, rfl⟩, .inl ⟨pre, h1, h2⟩⟩
end Go.Bu

/- What follows of a flash that is well formed; blocks in order, as the reference asks it. Stores, as the reference reads them: StoreOk, l11Read, l11Dirty. By which steps a record is written, as the reference says it: l12Room, l12Write, l12Flush, l12Fill, l21Steps, PlaySteps. Stores of a call's own, all their addresses named: what is read, and what each write in place leaves. Steps of an event, as the reference says them: l21Steps, PlaySteps. -/import Derived.Test.YtoekfnjeceijaaaGreatDoorZ2
import Derived.IntWalk
set_option maxHeartbeats 2000000
set_option linter.unusedVariables false
set_option linter.unusedSimpArgs false
namespace Go.Bu
open Go Go.RowKit Go.Plan Go.Proofs
theorem scanF_blocks : ∀ (f : List Block) (L L' : List Int),scanF L f = some L' → ∀ b ∈ f,b.pages.length = 4 ∧ inB b.worn 0 200 = true ∧ ∃ s s',scanP false s b.pages = some s'
 | [],_,_,_,b,hb=>by cases hb
 | x :: f,L,L',h,b,hb=>by
  simp only [scanF] at h
  split at h
  ·cases h
  ·rename_i hc
   simp only [Bool.or_eq_true,bne_iff_ne,ne_eq,Bool.not_eq_true',not_or,Decidable.not_not,Bool.not_eq_false] at hc
   cases hs : scanP false L x.pages with
   | none=>rw [hs] at h;cases h
   | some s =>
    rw [hs] at h
    rcases List.mem_cons.1 hb with rfl | hb
    ·exact ⟨hc.1,hc.2,L,s,hs⟩
    ·exact scanF_blocks f s L' h b hb
theorem scanP_pages : ∀ (ps : List Page) (prev : Bool) (L L' : List Int),scanP prev L ps = some L' → ∀ p ∈ ps,pageOkB p = true
 | [],_,_,_,_,p,hp=>by cases hp
 | x :: ps,prev,L,L',h,p,hp=>by
  simp only [scanP] at h
  split at h
  ·cases h
  ·rename_i hc
   simp only [Bool.or_eq_true,not_or,Bool.not_eq_true',Bool.not_eq_false] at hc
   rcases List.mem_cons.1 hp with rfl | hp
   ·exact hc.1.1
   ·exact scanP_pages ps _ _ L' h p hp
theorem flashOk_len {f : List Block} (h : flashOkB f = true) : f.length = 4:=by simp only [flashOkB,Bool.and_eq_true,beq_iff_eq] at h;exact h.1
theorem flashOk_some {f : List Block} (h : flashOkB f = true) : ∃ L,scanF [] f = some L:=by simp only [flashOkB,Bool.and_eq_true] at h;exact Option.isSome_iff_exists.1 h.2
theorem flashOk_block {f : List Block} (h : flashOkB f = true) {b : Block} (hb : b ∈ f) : b.pages.length = 4 ∧ 0 ≤ b.worn ∧ b.worn ≤ 200 ∧ ∀ p ∈ b.pages,pageOkB p = true:=by
 obtain ⟨L,hL⟩:=flashOk_some h
 obtain ⟨h1,h2,s,s',h3⟩:=scanF_blocks f [] L hL b hb
 have:=inB_iff.1 h2
 exact ⟨h1,this.1,this.2,scanP_pages b.pages false s s' h3⟩
def badPair (i k : Nat) (a b : Block) : Bool:=
 (decide (i ≠ k) && decide (0 < most a.pages) && decide (0 < most b.pages) && decide (least a.pages < most b.pages) && decide (least b.pages < most a.pages)) ||
 (decide (i ≠ k) && decide (0 < cleanN a.pages) && decide (cleanN a.pages < 4) && ((decide (0 < cleanN b.pages) && decide (cleanN b.pages < 4)) || (decide (0 < most a.pages) && decide (most a.pages < most b.pages))))
def orderIn (i : Nat) (a : Block) : Nat → List Block → Bool
 | _,[]=>true
 | k,b :: rest=>if badPair i k a b then false else orderIn i a (k + 1) rest
def orderOut (f : List Block) : Nat → List Block → Bool
 | _,[]=>true
 | i,a :: rest=>orderIn i a 0 f && orderOut f (i + 1) rest
def orderB (f : List Block) : Bool:=flashOkB f && orderOut f 0 f
theorem orderIn_drop (i : Nat) (a : Block) (f : List Block) (k : Nat) (h : k < f.length) : orderIn i a k (f.drop k) = if badPair i k a f[k] then false else orderIn i a (k + 1) (f.drop (k + 1)):=by
 rw [List.drop_eq_getElem_cons h];rfl
theorem orderOut_drop (f : List Block) (k : Nat) (h : k < f.length) : orderOut f k (f.drop k) = (orderIn k f[k] 0 f && orderOut f (k + 1) (f.drop (k + 1))):=by
 rw [List.drop_eq_getElem_cons h];rfl
set_option maxRecDepth 20000 in
set_option maxHeartbeats 4000000 in
theorem specFindOrder_c (v : Value) (f : List Block) (w : World) (h : Flash (Old w) w v f) (hn : f.length ≤ 1048576) :
  Calls Tryz.prog 71 #[v] w (Ret w (.bool (orderB f))):=by
 obtain ⟨a,cap,rfl⟩:=h.form
 cases hok : flashOkB f with
 | false =>
  have hq : orderB f = false:=by unfold orderB;rw [hok];rfl
  rw [hq]
  have HOK:=Lib.hid hok;clear hok hq
  go_enter Tryz.func71,Tryz.ntmps71
  go_wp2_with fail
  refine (specFlashOk_c _ f _ h hn).mono ?_;rintro e1 w1 ⟨rfl,hx1⟩
  rw [HOK.out]
  go_wp2
  go_ret
  exact ⟨rfl,hx1⟩
 | true =>
  obtain ⟨A,hA⟩ : ∃ A,orderOut f 0 f = A:=⟨_,rfl⟩
  have hq : orderB f = A:=by unfold orderB;rw [hok,hA];rfl
  rw [hq]
  have HA:=Lib.hid hA;clear hA hq
  have HB:=Lib.hid (fun b (hb : b ∈ f)=>(show b.pages.length ≤ 1048576 from by have:=(flashOk_block hok hb).1;omega))
  have HOK:=Lib.hid hok;clear hok
  go_enter Tryz.func71,Tryz.ntmps71
  go_wp2_with fail
  refine (specFlashOk_c _ f _ h hn).mono ?_;rintro e1 w1 ⟨rfl,hx1⟩
  rw [HOK.out]
  go_wp2
  go_loopw [3] (fun y wr=>∃ (i : Nat),i ≤ f.length ∧ y = .int .i64 i ∧ Ext w wr ∧ Hid (orderOut f i (f.drop i) = A)) (fun y _=>f.length - (intOf y).toNat)
  case atStart=>exact ⟨0,by omega,rfl,hx1,HA⟩
  case round =>
   obtain ⟨i,hi,rfl,hX,HR⟩:=hrel
   by_cases hlt : i < f.length
   ·obtain ⟨b,o,pv,rfl,hb,hpp,h0,h1⟩:=h.at2 hlt
    obtain ⟨pa,pcap,rfl⟩:=hpp.form
    have hb' : b < w.heap.size:=hb
    have hpl:=HB.out f[i] (List.getElem_mem _)
    rw [orderOut_drop _ _ hlt] at HR
    have HR2 : Hid ((orderIn i f[i] 0 (f.drop 0) && orderOut f (i + 1) (f.drop (i + 1))) = A):=HR
    clear HR
    go_wp2
    go_loopw [4] (fun y wr=>∃ (k : Nat),k ≤ f.length ∧ y = .int .i64 k ∧ Ext w wr ∧ Hid ((orderIn i f[i] k (f.drop k) && orderOut f (i + 1) (f.drop (i + 1))) = A)) (fun y _=>f.length - (intOf y).toNat)
    case atStart=>exact ⟨0,by omega,rfl,hX,HR2⟩
    case round =>
     clear hX HR2
     obtain ⟨k,hk,rfl,hX,HR⟩:=hrel
     obtain ⟨hc,hf⟩:=bcell hX
     by_cases hlk : k < f.length
     ·obtain ⟨b2,o2,pv2,heq,hb2,hpp2,d0,d1⟩:=h.at2 hlk
      simp only [Option.some.injEq,Addr.mk.injEq,and_true] at heq
      obtain ⟨rfl,rfl⟩:=heq
      obtain ⟨pa2,pcap2,rfl⟩:=hpp2.form
      have hbw : b < wr.heap.size:=Nat.lt_of_lt_of_le hb' hX.size
      have hpl2:=HB.out f[k] (List.getElem_mem _)
      rw [orderIn_drop _ _ _ _ hlk] at HR
      by_cases hik : i = k
      ·subst hik
       have hr:=HR.out
       rw [if_neg (by simp [badPair])] at hr
       have HR2:=Lib.hid hr;clear hr HR
       have hne : (((i : Nat) : Int) != ((i : Nat) : Int)) = false:=by simp
       go_wp2_with fail
       refine wp_region_ext [5,10,15,17,22,24] [0,1,2,3,4,5,6,7,8,9,10,11,12,13,14,16,15,17,18,19,20,21,23,22,24,25,26] [] [] (by kernel_rfl) (by kernel_rfl) ?late ?_
       case late=>exact fun f hf=>absurd hf List.not_mem_nil
       iterate 4
        refine Rob.y (v:=?_) rfl rfl (fun w1 hx hH=>?_) ?_;rotate_left
        ·go_simp;first | done | rfl | exact (Bool.not_not _).symm
        simp only [Act.put,slA,slB,slC]
       iterate 3
        refine Rob.no rfl rfl ?_
        simp only [Act.put,slA,slB,slC]
       refine Rob.y (v:=?_) rfl rfl (fun w1 hx hH=>?_) ?_;rotate_left
       ·go_simp;first | done | rfl | exact (Bool.not_not _).symm
       simp only [Act.put,slA,slB,slC]
       refine Rob.yB (b:=?_) rfl rfl (fun w1 hx hH=>?_) (fun hb8=>?_) (fun hb8=>?_);rotate_left
       ·go_simp;first | done | rfl | exact (Bool.not_not _).symm
       focus
        try contradiction
        all_goals
         simp only [Act.put,slA,slB,slC]
         refine Rob.yg (v:=?_) rfl rfl (fun w1 hx hH=>?_) ?_;rotate_left
         ·(obtain ⟨hcx,hfx⟩:=bcell hx);go_simp;first | done | rfl
         simp only [Act.put,slA,slB,slC]
         refine Rob.no rfl rfl ?_
         simp only [Act.put,slA,slB,slC]
         refine Rob.yg (v:=?_) rfl rfl (fun w1 hx hH=>?_) ?_;rotate_left
         ·go_simp;first | done | rfl | exact (Bool.not_not _).symm
         simp only [Act.put,slA,slB,slC]
         refine Rob.y (v:=?_) rfl rfl (fun w1 hx hH=>?_) ?_;rotate_left
         ·go_simp;first | done | rfl | exact (Bool.not_not _).symm
         simp only [Act.put,slA,slB,slC]
         refine Rob.yB (b:=?_) rfl rfl (fun w1 hx hH=>?_) (fun hb13=>?_) (fun hb13=>?_);rotate_left
         ·go_simp;first | done | rfl | exact (Bool.not_not _).symm
         focus
          try contradiction
          all_goals
           simp only [Act.put,slA,slB,slC]
           iterate 2
            refine Rob.yg (v:=?_) rfl rfl (fun w1 hx hH=>?_) ?_;rotate_left
            ·(obtain ⟨hcx,hfx⟩:=bcell hx);go_simp;first | done | rfl
            simp only [Act.put,slA,slB,slC]
           iterate 2
            refine Rob.no rfl rfl ?_
            simp only [Act.put,slA,slB,slC]
           refine Rob.yg (v:=?_) rfl rfl (fun w1 hx hH=>?_) ?_;rotate_left
           ·go_simp;first | done | rfl | exact (Bool.not_not _).symm
           simp only [Act.put,slA,slB,slC]
           refine Rob.y (v:=?_) rfl rfl (fun w1 hx hH=>?_) ?_;rotate_left
           ·go_simp;first | done | rfl | exact (Bool.not_not _).symm
           simp only [Act.put,slA,slB,slC]
           refine Rob.yB (b:=?_) rfl rfl (fun w1 hx hH=>?_) (fun hb20=>?_) (fun hb20=>?_);rotate_left
           ·go_simp;first | done | rfl | exact (Bool.not_not _).symm
           focus
            try contradiction
            all_goals
             simp only [Act.put,slA,slB,slC]
             iterate 2
              refine Rob.yg (v:=?_) rfl rfl (fun w1 hx hH=>?_) ?_;rotate_left
              ·(obtain ⟨hcx,hfx⟩:=bcell hx);go_simp;first | done | rfl
              simp only [Act.put,slA,slB,slC]
             iterate 2
              refine Rob.no rfl rfl ?_
              simp only [Act.put,slA,slB,slC]
             refine Rob.yg (v:=?_) rfl rfl (fun w1 hx hH=>?_) ?_;rotate_left
             ·go_simp;first | done | rfl | exact (Bool.not_not _).symm
             simp only [Act.put,slA,slB,slC]
             refine Rob.y (v:=?_) rfl rfl (fun w1 hx hH=>?_) ?_;rotate_left
             ·go_simp;first | done | rfl | exact (Bool.not_not _).symm
             simp only [Act.put,slA,slB,slC]
           rotate_right
           focus
            try contradiction
            all_goals
             simp only [Act.put,slA,slB,slC]
             iterate 5
              refine Rob.no rfl rfl ?_
              simp only [Act.put,slA,slB,slC]
             refine Rob.y (v:=?_) rfl rfl (fun w1 hx hH=>?_) ?_;rotate_left
             ·go_simp;first | done | rfl | exact (Bool.not_not _).symm
             simp only [Act.put,slA,slB,slC]
         rotate_right
         focus
          try contradiction
          all_goals
           simp only [Act.put,slA,slB,slC]
           iterate 5
            refine Rob.no rfl rfl ?_
            simp only [Act.put,slA,slB,slC]
           refine Rob.y (v:=?_) rfl rfl (fun w1 hx hH=>?_) ?_;rotate_left
           ·go_simp;first | done | rfl | exact (Bool.not_not _).symm
           simp only [Act.put,slA,slB,slC]
           refine Rob.yB (b:=?_) rfl rfl (fun w1 hx hH=>?_) (fun hb20=>?_) (fun hb20=>?_);rotate_left
           ·go_simp;first | done | rfl | exact (Bool.not_not _).symm
           focus
            try contradiction
            all_goals
             simp only [Act.put,slA,slB,slC]
             iterate 2
              refine Rob.yg (v:=?_) rfl rfl (fun w1 hx hH=>?_) ?_;rotate_left
              ·(obtain ⟨hcx,hfx⟩:=bcell hx);go_simp;first | done | rfl
              simp only [Act.put,slA,slB,slC]
             iterate 2
              refine Rob.no rfl rfl ?_
              simp only [Act.put,slA,slB,slC]
             refine Rob.yg (v:=?_) rfl rfl (fun w1 hx hH=>?_) ?_;rotate_left
             ·go_simp;first | done | rfl | exact (Bool.not_not _).symm
             simp only [Act.put,slA,slB,slC]
             refine Rob.y (v:=?_) rfl rfl (fun w1 hx hH=>?_) ?_;rotate_left
             ·go_simp;first | done | rfl | exact (Bool.not_not _).symm
             simp only [Act.put,slA,slB,slC]
           rotate_right
           focus
            try contradiction
            all_goals
             simp only [Act.put,slA,slB,slC]
             iterate 5
              refine Rob.no rfl rfl ?_
              simp only [Act.put,slA,slB,slC]
             refine Rob.y (v:=?_) rfl rfl (fun w1 hx hH=>?_) ?_;rotate_left
             ·go_simp;first | done | rfl | exact (Bool.not_not _).symm
             simp only [Act.put,slA,slB,slC]
       rotate_right
       focus
        try contradiction
        all_goals
         simp only [Act.put,slA,slB,slC]
         iterate 3
          refine Rob.no rfl rfl ?_
          simp only [Act.put,slA,slB,slC]
         refine Rob.y (v:=?_) rfl rfl (fun w1 hx hH=>?_) ?_;rotate_left
         ·go_simp;first | done | rfl | exact (Bool.not_not _).symm
         simp only [Act.put,slA,slB,slC]
         refine Rob.yB (b:=?_) rfl rfl (fun w1 hx hH=>?_) (fun hb13=>?_) (fun hb13=>?_);rotate_left
         ·go_simp;first | done | rfl | exact (Bool.not_not _).symm
         focus
          try contradiction
          all_goals
           simp only [Act.put,slA,slB,slC]
           iterate 2
            refine Rob.yg (v:=?_) rfl rfl (fun w1 hx hH=>?_) ?_;rotate_left
            ·(obtain ⟨hcx,hfx⟩:=bcell hx);go_simp;first | done | rfl
            simp only [Act.put,slA,slB,slC]
           iterate 2
            refine Rob.no rfl rfl ?_
            simp only [Act.put,slA,slB,slC]
           refine Rob.yg (v:=?_) rfl rfl (fun w1 hx hH=>?_) ?_;rotate_left
           ·go_simp;first | done | rfl | exact (Bool.not_not _).symm
           simp only [Act.put,slA,slB,slC]
           refine Rob.y (v:=?_) rfl rfl (fun w1 hx hH=>?_) ?_;rotate_left
           ·go_simp;first | done | rfl | exact (Bool.not_not _).symm
           simp only [Act.put,slA,slB,slC]
           refine Rob.yB (b:=?_) rfl rfl (fun w1 hx hH=>?_) (fun hb20=>?_) (fun hb20=>?_);rotate_left
           ·go_simp;first | done | rfl | exact (Bool.not_not _).symm
           focus
            try contradiction
            all_goals
             simp only [Act.put,slA,slB,slC]
             iterate 2
              refine Rob.yg (v:=?_) rfl rfl (fun w1 hx hH=>?_) ?_;rotate_left
              ·(obtain ⟨hcx,hfx⟩:=bcell hx);go_simp;first | done | rfl
              simp only [Act.put,slA,slB,slC]
             iterate 2
              refine Rob.no rfl rfl ?_
              simp only [Act.put,slA,slB,slC]
             refine Rob.yg (v:=?_) rfl rfl (fun w1 hx hH=>?_) ?_;rotate_left
             ·go_simp;first | done | rfl | exact (Bool.not_not _).symm
             simp only [Act.put,slA,slB,slC]
             refine Rob.y (v:=?_) rfl rfl (fun w1 hx hH=>?_) ?_;rotate_left
             ·go_simp;first | done | rfl | exact (Bool.not_not _).symm
             simp only [Act.put,slA,slB,slC]
           rotate_right
           focus
            try contradiction
            all_goals
             simp only [Act.put,slA,slB,slC]
             iterate 5
              refine Rob.no rfl rfl ?_
              simp only [Act.put,slA,slB,slC]
             refine Rob.y (v:=?_) rfl rfl (fun w1 hx hH=>?_) ?_;rotate_left
             ·go_simp;first | done | rfl | exact (Bool.not_not _).symm
             simp only [Act.put,slA,slB,slC]
         rotate_right
         focus
          try contradiction
          all_goals
           simp only [Act.put,slA,slB,slC]
           iterate 5
            refine Rob.no rfl rfl ?_
            simp only [Act.put,slA,slB,slC]
           refine Rob.y (v:=?_) rfl rfl (fun w1 hx hH=>?_) ?_;rotate_left
           ·go_simp;first | done | rfl | exact (Bool.not_not _).symm
           simp only [Act.put,slA,slB,slC]
           refine Rob.yB (b:=?_) rfl rfl (fun w1 hx hH=>?_) (fun hb20=>?_) (fun hb20=>?_);rotate_left
           ·go_simp;first | done | rfl | exact (Bool.not_not _).symm
           focus
            try contradiction
            all_goals
             simp only [Act.put,slA,slB,slC]
             iterate 2
              refine Rob.yg (v:=?_) rfl rfl (fun w1 hx hH=>?_) ?_;rotate_left
              ·(obtain ⟨hcx,hfx⟩:=bcell hx);go_simp;first | done | rfl
              simp only [Act.put,slA,slB,slC]
             iterate 2
              refine Rob.no rfl rfl ?_
              simp only [Act.put,slA,slB,slC]
             refine Rob.yg (v:=?_) rfl rfl (fun w1 hx hH=>?_) ?_;rotate_left
             ·go_simp;first | done | rfl | exact (Bool.not_not _).symm
             simp only [Act.put,slA,slB,slC]
             refine Rob.y (v:=?_) rfl rfl (fun w1 hx hH=>?_) ?_;rotate_left
             ·go_simp;first | done | rfl | exact (Bool.not_not _).symm
             simp only [Act.put,slA,slB,slC]
           rotate_right
           focus
            try contradiction
            all_goals
             simp only [Act.put,slA,slB,slC]
             iterate 5
              refine Rob.no rfl rfl ?_
              simp only [Act.put,slA,slB,slC]
             refine Rob.y (v:=?_) rfl rfl (fun w1 hx hH=>?_) ?_;rotate_left
             ·go_simp;first | done | rfl | exact (Bool.not_not _).symm
             simp only [Act.put,slA,slB,slC]
       refine fin_nil (fun w2 hx2 _=>?_)
       go_wp2_with fail
       refine wp_region_ext [5,10,15,19,24,28,30] [0,1,2,3,4,5,6,7,8,9,10,11,12,13,14,15,16,17,18,19,20,21,22,23,24,25,26,27,29,28,30,31,32,33,34] [] [] (by kernel_rfl) (by kernel_rfl) ?late ?_
       case late=>exact fun f hf=>absurd hf List.not_mem_nil
       iterate 4
        refine Rob.y (v:=?_) rfl rfl (fun w1 hx hH=>?_) ?_;rotate_left
        ·go_simp;first | done | rfl | exact (Bool.not_not _).symm
        simp only [Act.put,slA,slB,slC]
       iterate 3
        refine Rob.no rfl rfl ?_
        simp only [Act.put,slA,slB,slC]
       refine Rob.y (v:=?_) rfl rfl (fun w1 hx hH=>?_) ?_;rotate_left
       ·go_simp;first | done | rfl | exact (Bool.not_not _).symm
       simp only [Act.put,slA,slB,slC]
       refine Rob.yB (b:=?_) rfl rfl (fun w1 hx hH=>?_) (fun hb8=>?_) (fun hb8=>?_);rotate_left
       ·go_simp;first | done | rfl | exact (Bool.not_not _).symm
       focus
        try contradiction
        all_goals
         simp only [Act.put,slA,slB,slC]
         refine Rob.yg (v:=?_) rfl rfl (fun w1 hx hH=>?_) ?_;rotate_left
         ·(obtain ⟨hcx,hfx⟩:=bcell hx);go_simp;first | done | rfl
         simp only [Act.put,slA,slB,slC]
         refine Rob.no rfl rfl ?_
         simp only [Act.put,slA,slB,slC]
         refine Rob.yg (v:=?_) rfl rfl (fun w1 hx hH=>?_) ?_;rotate_left
         ·go_simp;first | done | rfl | exact (Bool.not_not _).symm
         simp only [Act.put,slA,slB,slC]
         refine Rob.y (v:=?_) rfl rfl (fun w1 hx hH=>?_) ?_;rotate_left
         ·go_simp;first | done | rfl | exact (Bool.not_not _).symm
         simp only [Act.put,slA,slB,slC]
         refine Rob.yB (b:=?_) rfl rfl (fun w1 hx hH=>?_) (fun hb13=>?_) (fun hb13=>?_);rotate_left
         ·go_simp;first | done | rfl | exact (Bool.not_not _).symm
         focus
          try contradiction
          all_goals
           simp only [Act.put,slA,slB,slC]
           refine Rob.yg (v:=?_) rfl rfl (fun w1 hx hH=>?_) ?_;rotate_left
           ·(obtain ⟨hcx,hfx⟩:=bcell hx);go_simp;first | done | rfl
           simp only [Act.put,slA,slB,slC]
           refine Rob.no rfl rfl ?_
           simp only [Act.put,slA,slB,slC]
           refine Rob.yg (v:=?_) rfl rfl (fun w1 hx hH=>?_) ?_;rotate_left
           ·go_simp;first | done | rfl | exact (Bool.not_not _).symm
           simp only [Act.put,slA,slB,slC]
           refine Rob.yB (b:=?_) rfl rfl (fun w1 hx hH=>?_) (fun hb17=>?_) (fun hb17=>?_);rotate_left
           ·go_simp;first | done | rfl | exact (Bool.not_not _).symm
           focus
            try contradiction
            all_goals
             simp only [Act.put,slA,slB,slC]
             refine Rob.yg (v:=?_) rfl rfl (fun w1 hx hH=>?_) ?_;rotate_left
             ·(obtain ⟨hcx,hfx⟩:=bcell hx);go_simp;first | done | rfl
             simp only [Act.put,slA,slB,slC]
             refine Rob.no rfl rfl ?_
             simp only [Act.put,slA,slB,slC]
             iterate 2
              refine Rob.yg (v:=?_) rfl rfl (fun w1 hx hH=>?_) ?_;rotate_left
              ·go_simp;first | done | rfl | exact (Bool.not_not _).symm
              simp only [Act.put,slA,slB,slC]
             refine Rob.yB (b:=?_) rfl rfl (fun w1 hx hH=>?_) (fun hb22=>?_) (fun hb22=>?_);rotate_left
             ·go_simp;first | done | rfl | exact (Bool.not_not _).symm
             focus
              try contradiction
              all_goals
               simp only [Act.put,slA,slB,slC]
               iterate 10
                refine Rob.no rfl rfl ?_
                simp only [Act.put,slA,slB,slC]
               refine Rob.yg (v:=?_) rfl rfl (fun w1 hx hH=>?_) ?_;rotate_left
               ·go_simp;first | done | rfl | exact (Bool.not_not _).symm
               simp only [Act.put,slA,slB,slC]
               refine Rob.y (v:=?_) rfl rfl (fun w1 hx hH=>?_) ?_;rotate_left
               ·go_simp;first | done | rfl | exact (Bool.not_not _).symm
               simp only [Act.put,slA,slB,slC]
             rotate_right
             focus
              try contradiction
              all_goals
               simp only [Act.put,slA,slB,slC]
               refine Rob.yg (v:=?_) rfl rfl (fun w1 hx hH=>?_) ?_;rotate_left
               ·(obtain ⟨hcx,hfx⟩:=bcell hx);go_simp;first | done | rfl
               simp only [Act.put,slA,slB,slC]
               refine Rob.no rfl rfl ?_
               simp only [Act.put,slA,slB,slC]
               refine Rob.yg (v:=?_) rfl rfl (fun w1 hx hH=>?_) ?_;rotate_left
               ·go_simp;first | done | rfl | exact (Bool.not_not _).symm
               simp only [Act.put,slA,slB,slC]
               refine Rob.yB (b:=?_) rfl rfl (fun w1 hx hH=>?_) (fun hb26=>?_) (fun hb26=>?_);rotate_left
               ·go_simp;first | done | rfl | exact (Bool.not_not _).symm
               focus
                try contradiction
                all_goals
                 simp only [Act.put,slA,slB,slC]
                 iterate 2
                  refine Rob.yg (v:=?_) rfl rfl (fun w1 hx hH=>?_) ?_;rotate_left
                  ·(obtain ⟨hcx,hfx⟩:=bcell hx);go_simp;first | done | rfl
                  simp only [Act.put,slA,slB,slC]
                 iterate 2
                  refine Rob.no rfl rfl ?_
                  simp only [Act.put,slA,slB,slC]
                 iterate 3
                  refine Rob.yg (v:=?_) rfl rfl (fun w1 hx hH=>?_) ?_;rotate_left
                  ·go_simp;first | done | rfl | exact (Bool.not_not _).symm
                  simp only [Act.put,slA,slB,slC]
                 refine Rob.y (v:=?_) rfl rfl (fun w1 hx hH=>?_) ?_;rotate_left
                 ·go_simp;first | done | rfl | exact (Bool.not_not _).symm
                 simp only [Act.put,slA,slB,slC]
               rotate_right
               focus
                try contradiction
                all_goals
                 simp only [Act.put,slA,slB,slC]
                 iterate 5
                  refine Rob.no rfl rfl ?_
                  simp only [Act.put,slA,slB,slC]
                 iterate 2
                  refine Rob.yg (v:=?_) rfl rfl (fun w1 hx hH=>?_) ?_;rotate_left
                  ·go_simp;first | done | rfl | exact (Bool.not_not _).symm
                  simp only [Act.put,slA,slB,slC]
                 refine Rob.y (v:=?_) rfl rfl (fun w1 hx hH=>?_) ?_;rotate_left
                 ·go_simp;first | done | rfl | exact (Bool.not_not _).symm
                 simp only [Act.put,slA,slB,slC]
           rotate_right
           focus
            try contradiction
            all_goals
             simp only [Act.put,slA,slB,slC]
             iterate 3
              refine Rob.no rfl rfl ?_
              simp only [Act.put,slA,slB,slC]
             refine Rob.yg (v:=?_) rfl rfl (fun w1 hx hH=>?_) ?_;rotate_left
             ·go_simp;first | done | rfl | exact (Bool.not_not _).symm
             simp only [Act.put,slA,slB,slC]
             refine Rob.yB (b:=?_) rfl rfl (fun w1 hx hH=>?_) (fun hb22=>?_) (fun hb22=>?_);rotate_left
             ·go_simp;first | done | rfl | exact (Bool.not_not _).symm
             focus
              try contradiction
              all_goals
               simp only [Act.put,slA,slB,slC]
               iterate 10
                refine Rob.no rfl rfl ?_
                simp only [Act.put,slA,slB,slC]
               refine Rob.yg (v:=?_) rfl rfl (fun w1 hx hH=>?_) ?_;rotate_left
               ·go_simp;first | done | rfl | exact (Bool.not_not _).symm
               simp only [Act.put,slA,slB,slC]
               refine Rob.y (v:=?_) rfl rfl (fun w1 hx hH=>?_) ?_;rotate_left
               ·go_simp;first | done | rfl | exact (Bool.not_not _).symm
               simp only [Act.put,slA,slB,slC]
             rotate_right
             focus
              try contradiction
              all_goals
               simp only [Act.put,slA,slB,slC]
               refine Rob.yg (v:=?_) rfl rfl (fun w1 hx hH=>?_) ?_;rotate_left
               ·(obtain ⟨hcx,hfx⟩:=bcell hx);go_simp;first | done | rfl
               simp only [Act.put,slA,slB,slC]
               refine Rob.no rfl rfl ?_
               simp only [Act.put,slA,slB,slC]
               refine Rob.yg (v:=?_) rfl rfl (fun w1 hx hH=>?_) ?_;rotate_left
               ·go_simp;first | done | rfl | exact (Bool.not_not _).symm
               simp only [Act.put,slA,slB,slC]
               refine Rob.yB (b:=?_) rfl rfl (fun w1 hx hH=>?_) (fun hb26=>?_) (fun hb26=>?_);rotate_left
               ·go_simp;first | done | rfl | exact (Bool.not_not _).symm
               focus
                try contradiction
                all_goals
                 simp only [Act.put,slA,slB,slC]
                 iterate 2
                  refine Rob.yg (v:=?_) rfl rfl (fun w1 hx hH=>?_) ?_;rotate_left
                  ·(obtain ⟨hcx,hfx⟩:=bcell hx);go_simp;first | done | rfl
                  simp only [Act.put,slA,slB,slC]
                 iterate 2
                  refine Rob.no rfl rfl ?_
                  simp only [Act.put,slA,slB,slC]
                 iterate 3
                  refine Rob.yg (v:=?_) rfl rfl (fun w1 hx hH=>?_) ?_;rotate_left
                  ·go_simp;first | done | rfl | exact (Bool.not_not _).symm
                  simp only [Act.put,slA,slB,slC]
                 refine Rob.y (v:=?_) rfl rfl (fun w1 hx hH=>?_) ?_;rotate_left
                 ·go_simp;first | done | rfl | exact (Bool.not_not _).symm
                 simp only [Act.put,slA,slB,slC]
               rotate_right
               focus
                try contradiction
                all_goals
                 simp only [Act.put,slA,slB,slC]
                 iterate 5
                  refine Rob.no rfl rfl ?_
                  simp only [Act.put,slA,slB,slC]
                 iterate 2
                  refine Rob.yg (v:=?_) rfl rfl (fun w1 hx hH=>?_) ?_;rotate_left
                  ·go_simp;first | done | rfl | exact (Bool.not_not _).symm
                  simp only [Act.put,slA,slB,slC]
                 refine Rob.y (v:=?_) rfl rfl (fun w1 hx hH=>?_) ?_;rotate_left
                 ·go_simp;first | done | rfl | exact (Bool.not_not _).symm
                 simp only [Act.put,slA,slB,slC]
         rotate_right
         focus
          try contradiction
          all_goals
           simp only [Act.put,slA,slB,slC]
           iterate 20
            refine Rob.no rfl rfl ?_
            simp only [Act.put,slA,slB,slC]
           refine Rob.y (v:=?_) rfl rfl (fun w1 hx hH=>?_) ?_;rotate_left
           ·go_simp;first | done | rfl | exact (Bool.not_not _).symm
           simp only [Act.put,slA,slB,slC]
       rotate_right
       focus
        try contradiction
        all_goals
         simp only [Act.put,slA,slB,slC]
         iterate 3
          refine Rob.no rfl rfl ?_
          simp only [Act.put,slA,slB,slC]
         refine Rob.y (v:=?_) rfl rfl (fun w1 hx hH=>?_) ?_;rotate_left
         ·go_simp;first | done | rfl | exact (Bool.not_not _).symm
         simp only [Act.put,slA,slB,slC]
         refine Rob.yB (b:=?_) rfl rfl (fun w1 hx hH=>?_) (fun hb13=>?_) (fun hb13=>?_);rotate_left
         ·go_simp;first | done | rfl | exact (Bool.not_not _).symm
         focus
          try contradiction
          all_goals
           simp only [Act.put,slA,slB,slC]
           refine Rob.yg (v:=?_) rfl rfl (fun w1 hx hH=>?_) ?_;rotate_left
           ·(obtain ⟨hcx,hfx⟩:=bcell hx);go_simp;first | done | rfl
           simp only [Act.put,slA,slB,slC]
           refine Rob.no rfl rfl ?_
           simp only [Act.put,slA,slB,slC]
           refine Rob.yg (v:=?_) rfl rfl (fun w1 hx hH=>?_) ?_;rotate_left
           ·go_simp;first | done | rfl | exact (Bool.not_not _).symm
           simp only [Act.put,slA,slB,slC]
           refine Rob.yB (b:=?_) rfl rfl (fun w1 hx hH=>?_) (fun hb17=>?_) (fun hb17=>?_);rotate_left
           ·go_simp;first | done | rfl | exact (Bool.not_not _).symm
           focus
            try contradiction
            all_goals
             simp only [Act.put,slA,slB,slC]
             refine Rob.yg (v:=?_) rfl rfl (fun w1 hx hH=>?_) ?_;rotate_left
             ·(obtain ⟨hcx,hfx⟩:=bcell hx);go_simp;first | done | rfl
             simp only [Act.put,slA,slB,slC]
             refine Rob.no rfl rfl ?_
             simp only [Act.put,slA,slB,slC]
             iterate 2
              refine Rob.yg (v:=?_) rfl rfl (fun w1 hx hH=>?_) ?_;rotate_left
              ·go_simp;first | done | rfl | exact (Bool.not_not _).symm
              simp only [Act.put,slA,slB,slC]
             refine Rob.yB (b:=?_) rfl rfl (fun w1 hx hH=>?_) (fun hb22=>?_) (fun hb22=>?_);rotate_left
             ·go_simp;first | done | rfl | exact (Bool.not_not _).symm
             focus
              try contradiction
              all_goals
               simp only [Act.put,slA,slB,slC]
               iterate 10
                refine Rob.no rfl rfl ?_
                simp only [Act.put,slA,slB,slC]
               refine Rob.yg (v:=?_) rfl rfl (fun w1 hx hH=>?_) ?_;rotate_left
               ·go_simp;first | done | rfl | exact (Bool.not_not _).symm
               simp only [Act.put,slA,slB,slC]
               refine Rob.y (v:=?_) rfl rfl (fun w1 hx hH=>?_) ?_;rotate_left
               ·go_simp;first | done | rfl | exact (Bool.not_not _).symm
               simp only [Act.put,slA,slB,slC]
             rotate_right
             focus
              try contradiction
              all_goals
               simp only [Act.put,slA,slB,slC]
               refine Rob.yg (v:=?_) rfl rfl (fun w1 hx hH=>?_) ?_;rotate_left
               ·(obtain ⟨hcx,hfx⟩:=bcell hx);go_simp;first | done | rfl
               simp only [Act.put,slA,slB,slC]
               refine Rob.no rfl rfl ?_
               simp only [Act.put,slA,slB,slC]
               refine Rob.yg (v:=?_) rfl rfl (fun w1 hx hH=>?_) ?_;rotate_left
               ·go_simp;first | done | rfl | exact (Bool.not_not _).symm
               simp only [Act.put,slA,slB,slC]
               refine Rob.yB (b:=?_) rfl rfl (fun w1 hx hH=>?_) (fun hb26=>?_) (fun hb26=>?_);rotate_left
               ·go_simp;first | done | rfl | exact (Bool.not_not _).symm
               focus
                try contradiction
                all_goals
                 simp only [Act.put,slA,slB,slC]
                 iterate 2
                  refine Rob.yg (v:=?_) rfl rfl (fun w1 hx hH=>?_) ?_;rotate_left
                  ·(obtain ⟨hcx,hfx⟩:=bcell hx);go_simp;first | done | rfl
                  simp only [Act.put,slA,slB,slC]
                 iterate 2
                  refine Rob.no rfl rfl ?_
                  simp only [Act.put,slA,slB,slC]
                 iterate 3
                  refine Rob.yg (v:=?_) rfl rfl (fun w1 hx hH=>?_) ?_;rotate_left
                  ·go_simp;first | done | rfl | exact (Bool.not_not _).symm
                  simp only [Act.put,slA,slB,slC]
                 refine Rob.y (v:=?_) rfl rfl (fun w1 hx hH=>?_) ?_;rotate_left
                 ·go_simp;first | done | rfl | exact (Bool.not_not _).symm
                 simp only [Act.put,slA,slB,slC]
               rotate_right
               focus
                try contradiction
                all_goals
                 simp only [Act.put,slA,slB,slC]
                 iterate 5
                  refine Rob.no rfl rfl ?_
                  simp only [Act.put,slA,slB,slC]
                 iterate 2
                  refine Rob.yg (v:=?_) rfl rfl (fun w1 hx hH=>?_) ?_;rotate_left
                  ·go_simp;first | done | rfl | exact (Bool.not_not _).symm
                  simp only [Act.put,slA,slB,slC]
                 refine Rob.y (v:=?_) rfl rfl (fun w1 hx hH=>?_) ?_;rotate_left
                 ·go_simp;first | done | rfl | exact (Bool.not_not _).symm
                 simp only [Act.put,slA,slB,slC]
           rotate_right
           focus
            try contradiction
            all_goals
             simp only [Act.put,slA,slB,slC]
             iterate 3
              refine Rob.no rfl rfl ?_
              simp only [Act.put,slA,slB,slC]
             refine Rob.yg (v:=?_) rfl rfl (fun w1 hx hH=>?_) ?_;rotate_left
             ·go_simp;first | done | rfl | exact (Bool.not_not _).symm
             simp only [Act.put,slA,slB,slC]
             refine Rob.yB (b:=?_) rfl rfl (fun w1 hx hH=>?_) (fun hb22=>?_) (fun hb22=>?_);rotate_left
             ·go_simp;first | done | rfl | exact (Bool.not_not _).symm
             focus
              try contradiction
              all_goals
               simp only [Act.put,slA,slB,slC]
               iterate 10
                refine Rob.no rfl rfl ?_
                simp only [Act.put,slA,slB,slC]
               refine Rob.yg (v:=?_) rfl rfl (fun w1 hx hH=>?_) ?_;rotate_left
               ·go_simp;first | done | rfl | exact (Bool.not_not _).symm
               simp only [Act.put,slA,slB,slC]
               refine Rob.y (v:=?_) rfl rfl (fun w1 hx hH=>?_) ?_;rotate_left
               ·go_simp;first | done | rfl | exact (Bool.not_not _).symm
               simp only [Act.put,slA,slB,slC]
             rotate_right
             focus
              try contradiction
              all_goals
               simp only [Act.put,slA,slB,slC]
               refine Rob.yg (v:=?_) rfl rfl (fun w1 hx hH=>?_) ?_;rotate_left
               ·(obtain ⟨hcx,hfx⟩:=bcell hx);go_simp;first | done | rfl
               simp only [Act.put,slA,slB,slC]
               refine Rob.no rfl rfl ?_
               simp only [Act.put,slA,slB,slC]
               refine Rob.yg (v:=?_) rfl rfl (fun w1 hx hH=>?_) ?_;rotate_left
               ·go_simp;first | done | rfl | exact (Bool.not_not _).symm
               simp only [Act.put,slA,slB,slC]
               refine Rob.yB (b:=?_) rfl rfl (fun w1 hx hH=>?_) (fun hb26=>?_) (fun hb26=>?_);rotate_left
               ·go_simp;first | done | rfl | exact (Bool.not_not _).symm
               focus
                try contradiction
                all_goals
                 simp only [Act.put,slA,slB,slC]
                 iterate 2
                  refine Rob.yg (v:=?_) rfl rfl (fun w1 hx hH=>?_) ?_;rotate_left
                  ·(obtain ⟨hcx,hfx⟩:=bcell hx);go_simp;first | done | rfl
                  simp only [Act.put,slA,slB,slC]
                 iterate 2
                  refine Rob.no rfl rfl ?_
                  simp only [Act.put,slA,slB,slC]
                 iterate 3
                  refine Rob.yg (v:=?_) rfl rfl (fun w1 hx hH=>?_) ?_;rotate_left
                  ·go_simp;first | done | rfl | exact (Bool.not_not _).symm
                  simp only [Act.put,slA,slB,slC]
                 refine Rob.y (v:=?_) rfl rfl (fun w1 hx hH=>?_) ?_;rotate_left
                 ·go_simp;first | done | rfl | exact (Bool.not_not _).symm
                 simp only [Act.put,slA,slB,slC]
               rotate_right
               focus
                try contradiction
                all_goals
                 simp only [Act.put,slA,slB,slC]
                 iterate 5
                  refine Rob.no rfl rfl ?_
                  simp only [Act.put,slA,slB,slC]
                 iterate 2
                  refine Rob.yg (v:=?_) rfl rfl (fun w1 hx hH=>?_) ?_;rotate_left
                  ·go_simp;first | done | rfl | exact (Bool.not_not _).symm
                  simp only [Act.put,slA,slB,slC]
                 refine Rob.y (v:=?_) rfl rfl (fun w1 hx hH=>?_) ?_;rotate_left
                 ·go_simp;first | done | rfl | exact (Bool.not_not _).symm
                 simp only [Act.put,slA,slB,slC]
         rotate_right
         focus
          try contradiction
          all_goals
           simp only [Act.put,slA,slB,slC]
           iterate 20
            refine Rob.no rfl rfl ?_
            simp only [Act.put,slA,slB,slC]
           refine Rob.y (v:=?_) rfl rfl (fun w1 hx hH=>?_) ?_;rotate_left
           ·go_simp;first | done | rfl | exact (Bool.not_not _).symm
           simp only [Act.put,slA,slB,slC]
       refine fin_nil (fun w3 hx3 _=>?_)
       have X3:=ext_trans (ext_trans (ext_alloc (ext_alloc hX _) _) hx2) hx3
       clear hc hf hne
       go_wp2_with fail
       exact ⟨⟨i + 1,by omega,by go_num,X3,HR2⟩,by simp [intOf];omega⟩
      ·have hne : (((i : Nat) : Int) != ((k : Nat) : Int)) = true:=by simp;omega
       have hned : decide (i ≠ k) = true:=by simp [hik]
       have HN:=Lib.hid hned;clear hned
       go_wp2_with fail
       refine wp_region_ext [5,10,15,17,22,24] [0,1,2,3,4,5,6,7,8,9,10,11,12,13,14,16,15,17,18,19,20,21,23,22,24,25,26] [] [] (by kernel_rfl) (by kernel_rfl) ?late ?_
       case late=>exact fun f hf=>absurd hf List.not_mem_nil
       iterate 4
        refine Rob.y (v:=?_) rfl rfl (fun w1 hx hH=>?_) ?_;rotate_left
        ·go_simp;first | done | rfl | exact (Bool.not_not _).symm
        simp only [Act.put,slA,slB,slC]
       refine Rob.yg (v:=?_) rfl rfl (fun w1 hx hH=>?_) ?_;rotate_left
       ·(obtain ⟨hcx,hfx⟩:=bcell hx);go_simp;first | done | rfl
       simp only [Act.put,slA,slB,slC]
       refine Rob.cv (.int .i64 (most f[i].pages)) rfl rfl rfl (fun _ _=>ext_trans) (fun w1 hx hH=>?_) (fun lo5 hi5 hlo5 hhi5=>?_)
       ·unfold RunTo;go_simp;exact (l3Most_c _ f[i].pages f[i].worn _ (hpp.ext (ext_trans (ext_alloc (ext_alloc hX _) _) hx)) hpl).mono fun e w' h=>h.to
       simp only [Act.put,slA,slB,slC]
       refine Rob.yg (v:=?_) rfl rfl (fun w1 hx hH=>?_) ?_;rotate_left
       ·go_simp;first | done | rfl | exact (Bool.not_not _).symm
       simp only [Act.put,slA,slB,slC]
       refine Rob.y (v:=?_) rfl rfl (fun w1 hx hH=>?_) ?_;rotate_left
       ·go_simp;first | done | rfl | exact (Bool.not_not _).symm
       simp only [Act.put,slA,slB,slC]
       refine Rob.yB (b:=?_) rfl rfl (fun w1 hx hH=>?_) (fun hb8=>?_) (fun hb8=>?_);rotate_left
       ·go_simp;first | done | rfl | exact (Bool.not_not _).symm
       focus
        try contradiction
        all_goals
         simp only [Act.put,slA,slB,slC]
         refine Rob.yg (v:=?_) rfl rfl (fun w1 hx hH=>?_) ?_;rotate_left
         ·(obtain ⟨hcx,hfx⟩:=bcell hx);go_simp;first | done | rfl
         simp only [Act.put,slA,slB,slC]
         refine Rob.cv (.int .i64 (most f[k].pages)) rfl rfl rfl (fun _ _=>ext_trans) (fun w1 hx hH=>?_) (fun lo10 hi10 hlo10 hhi10=>?_)
         ·unfold RunTo;go_simp;exact (l3Most_c _ f[k].pages f[k].worn _ (hpp2.ext (ext_trans (ext_alloc (ext_alloc hX _) _) hx)) hpl2).mono fun e w' h=>h.to
         simp only [Act.put,slA,slB,slC]
         refine Rob.yg (v:=?_) rfl rfl (fun w1 hx hH=>?_) ?_;rotate_left
         ·go_simp;first | done | rfl | exact (Bool.not_not _).symm
         simp only [Act.put,slA,slB,slC]
         refine Rob.y (v:=?_) rfl rfl (fun w1 hx hH=>?_) ?_;rotate_left
         ·go_simp;first | done | rfl | exact (Bool.not_not _).symm
         simp only [Act.put,slA,slB,slC]
         refine Rob.yB (b:=?_) rfl rfl (fun w1 hx hH=>?_) (fun hb13=>?_) (fun hb13=>?_);rotate_left
         ·go_simp;first | done | rfl | exact (Bool.not_not _).symm
         focus
          try contradiction
          all_goals
           simp only [Act.put,slA,slB,slC]
           iterate 2
            refine Rob.yg (v:=?_) rfl rfl (fun w1 hx hH=>?_) ?_;rotate_left
            ·(obtain ⟨hcx,hfx⟩:=bcell hx);go_simp;first | done | rfl
            simp only [Act.put,slA,slB,slC]
           refine Rob.cv (.int .i64 (least f[i].pages)) rfl rfl rfl (fun _ _=>ext_trans) (fun w1 hx hH=>?_) (fun lo15 hi15 hlo15 hhi15=>?_)
           ·unfold RunTo;go_simp;exact (l3Least_c _ f[i].pages f[i].worn _ (hpp.ext (ext_trans (ext_alloc (ext_alloc hX _) _) hx)) hpl).mono fun e w' h=>h.to
           simp only [Act.put,slA,slB,slC]
           refine Rob.cv (.int .i64 (most f[k].pages)) rfl rfl rfl (fun _ _=>ext_trans) (fun w1 hx hH=>?_) (fun lo17 hi17 hlo17 hhi17=>?_)
           ·unfold RunTo;go_simp;exact (l3Most_c _ f[k].pages f[k].worn _ (hpp2.ext (ext_trans (ext_alloc (ext_alloc hX _) _) hx)) hpl2).mono fun e w' h=>h.to
           simp only [Act.put,slA,slB,slC]
           refine Rob.yg (v:=?_) rfl rfl (fun w1 hx hH=>?_) ?_;rotate_left
           ·go_simp;first | done | rfl | exact (Bool.not_not _).symm
           simp only [Act.put,slA,slB,slC]
           refine Rob.y (v:=?_) rfl rfl (fun w1 hx hH=>?_) ?_;rotate_left
           ·go_simp;first | done | rfl | exact (Bool.not_not _).symm
           simp only [Act.put,slA,slB,slC]
           refine Rob.yB (b:=?_) rfl rfl (fun w1 hx hH=>?_) (fun hb20=>?_) (fun hb20=>?_);rotate_left
           ·go_simp;first | done | rfl | exact (Bool.not_not _).symm
           focus
            try contradiction
            all_goals
             simp only [Act.put,slA,slB,slC]
             iterate 2
              refine Rob.yg (v:=?_) rfl rfl (fun w1 hx hH=>?_) ?_;rotate_left
              ·(obtain ⟨hcx,hfx⟩:=bcell hx);go_simp;first | done | rfl
              simp only [Act.put,slA,slB,slC]
             refine Rob.cv (.int .i64 (least f[k].pages)) rfl rfl rfl (fun _ _=>ext_trans) (fun w1 hx hH=>?_) (fun lo22 hi22 hlo22 hhi22=>?_)
             ·unfold RunTo;go_simp;exact (l3Least_c _ f[k].pages f[k].worn _ (hpp2.ext (ext_trans (ext_alloc (ext_alloc hX _) _) hx)) hpl2).mono fun e w' h=>h.to
             simp only [Act.put,slA,slB,slC]
             refine Rob.cv (.int .i64 (most f[i].pages)) rfl rfl rfl (fun _ _=>ext_trans) (fun w1 hx hH=>?_) (fun lo24 hi24 hlo24 hhi24=>?_)
             ·unfold RunTo;go_simp;exact (l3Most_c _ f[i].pages f[i].worn _ (hpp.ext (ext_trans (ext_alloc (ext_alloc hX _) _) hx)) hpl).mono fun e w' h=>h.to
             simp only [Act.put,slA,slB,slC]
             refine Rob.yg (v:=?_) rfl rfl (fun w1 hx hH=>?_) ?_;rotate_left
             ·go_simp;first | done | rfl | exact (Bool.not_not _).symm
             simp only [Act.put,slA,slB,slC]
             refine Rob.y (v:=?_) rfl rfl (fun w1 hx hH=>?_) ?_;rotate_left
             ·go_simp;first | done | rfl | exact (Bool.not_not _).symm
             simp only [Act.put,slA,slB,slC]
           rotate_right
           focus
            try contradiction
            all_goals
             simp only [Act.put,slA,slB,slC]
             iterate 5
              refine Rob.no rfl rfl ?_
              simp only [Act.put,slA,slB,slC]
             refine Rob.y (v:=?_) rfl rfl (fun w1 hx hH=>?_) ?_;rotate_left
             ·go_simp;first | done | rfl | exact (Bool.not_not _).symm
             simp only [Act.put,slA,slB,slC]
         rotate_right
         focus
          try contradiction
          all_goals
           simp only [Act.put,slA,slB,slC]
           iterate 5
            refine Rob.no rfl rfl ?_
            simp only [Act.put,slA,slB,slC]
           refine Rob.y (v:=?_) rfl rfl (fun w1 hx hH=>?_) ?_;rotate_left
           ·go_simp;first | done | rfl | exact (Bool.not_not _).symm
           simp only [Act.put,slA,slB,slC]
           refine Rob.yB (b:=?_) rfl rfl (fun w1 hx hH=>?_) (fun hb20=>?_) (fun hb20=>?_);rotate_left
           ·go_simp;first | done | rfl | exact (Bool.not_not _).symm
           focus
            try contradiction
            all_goals
             simp only [Act.put,slA,slB,slC]
             iterate 2
              refine Rob.yg (v:=?_) rfl rfl (fun w1 hx hH=>?_) ?_;rotate_left
              ·(obtain ⟨hcx,hfx⟩:=bcell hx);go_simp;first | done | rfl
              simp only [Act.put,slA,slB,slC]
             refine Rob.cv (.int .i64 (least f[k].pages)) rfl rfl rfl (fun _ _=>ext_trans) (fun w1 hx hH=>?_) (fun lo22 hi22 hlo22 hhi22=>?_)
             ·unfold RunTo;go_simp;exact (l3Least_c _ f[k].pages f[k].worn _ (hpp2.ext (ext_trans (ext_alloc (ext_alloc hX _) _) hx)) hpl2).mono fun e w' h=>h.to
             simp only [Act.put,slA,slB,slC]
             refine Rob.cv (.int .i64 (most f[i].pages)) rfl rfl rfl (fun _ _=>ext_trans) (fun w1 hx hH=>?_) (fun lo24 hi24 hlo24 hhi24=>?_)
             ·unfold RunTo;go_simp;exact (l3Most_c _ f[i].pages f[i].worn _ (hpp.ext (ext_trans (ext_alloc (ext_alloc hX _) _) hx)) hpl).mono fun e w' h=>h.to
             simp only [Act.put,slA,slB,slC]
             refine Rob.yg (v:=?_) rfl rfl (fun w1 hx hH=>?_) ?_;rotate_left
             ·go_simp;first | done | rfl | exact (Bool.not_not _).symm
             simp only [Act.put,slA,slB,slC]
             refine Rob.y (v:=?_) rfl rfl (fun w1 hx hH=>?_) ?_;rotate_left
             ·go_simp;first | done | rfl | exact (Bool.not_not _).symm
             simp only [Act.put,slA,slB,slC]
           rotate_right
           focus
            try contradiction
            all_goals
             simp only [Act.put,slA,slB,slC]
             iterate 5
              refine Rob.no rfl rfl ?_
              simp only [Act.put,slA,slB,slC]
             refine Rob.y (v:=?_) rfl rfl (fun w1 hx hH=>?_) ?_;rotate_left
             ·go_simp;first | done | rfl | exact (Bool.not_not _).symm
             simp only [Act.put,slA,slB,slC]
       rotate_right
       focus
        try contradiction
        all_goals
         simp only [Act.put,slA,slB,slC]
         iterate 3
          refine Rob.no rfl rfl ?_
          simp only [Act.put,slA,slB,slC]
         refine Rob.y (v:=?_) rfl rfl (fun w1 hx hH=>?_) ?_;rotate_left
         ·go_simp;first | done | rfl | exact (Bool.not_not _).symm
         simp only [Act.put,slA,slB,slC]
         refine Rob.yB (b:=?_) rfl rfl (fun w1 hx hH=>?_) (fun hb13=>?_) (fun hb13=>?_);rotate_left
         ·go_simp;first | done | rfl | exact (Bool.not_not _).symm
         focus
          try contradiction
          all_goals
           simp only [Act.put,slA,slB,slC]
           iterate 2
            refine Rob.yg (v:=?_) rfl rfl (fun w1 hx hH=>?_) ?_;rotate_left
            ·(obtain ⟨hcx,hfx⟩:=bcell hx);go_simp;first | done | rfl
            simp only [Act.put,slA,slB,slC]
           refine Rob.cv (.int .i64 (least f[i].pages)) rfl rfl rfl (fun _ _=>ext_trans) (fun w1 hx hH=>?_) (fun lo15 hi15 hlo15 hhi15=>?_)
           ·unfold RunTo;go_simp;exact (l3Least_c _ f[i].pages f[i].worn _ (hpp.ext (ext_trans (ext_alloc (ext_alloc hX _) _) hx)) hpl).mono fun e w' h=>h.to
           simp only [Act.put,slA,slB,slC]
           refine Rob.cv (.int .i64 (most f[k].pages)) rfl rfl rfl (fun _ _=>ext_trans) (fun w1 hx hH=>?_) (fun lo17 hi17 hlo17 hhi17=>?_)
           ·unfold RunTo;go_simp;exact (l3Most_c _ f[k].pages f[k].worn _ (hpp2.ext (ext_trans (ext_alloc (ext_alloc hX _) _) hx)) hpl2).mono fun e w' h=>h.to
           simp only [Act.put,slA,slB,slC]
           refine Rob.yg (v:=?_) rfl rfl (fun w1 hx hH=>?_) ?_;rotate_left
           ·go_simp;first | done | rfl | exact (Bool.not_not _).symm
           simp only [Act.put,slA,slB,slC]
           refine Rob.y (v:=?_) rfl rfl (fun w1 hx hH=>?_) ?_;rotate_left
           ·go_simp;first | done | rfl | exact (Bool.not_not _).symm
           simp only [Act.put,slA,slB,slC]
           refine Rob.yB (b:=?_) rfl rfl (fun w1 hx hH=>?_) (fun hb20=>?_) (fun hb20=>?_);rotate_left
           ·go_simp;first | done | rfl | exact (Bool.not_not _).symm
           focus
            try contradiction
            all_goals
             simp only [Act.put,slA,slB,slC]
             iterate 2
              refine Rob.yg (v:=?_) rfl rfl (fun w1 hx hH=>?_) ?_;rotate_left
              ·(obtain ⟨hcx,hfx⟩:=bcell hx);go_simp;first | done | rfl
              simp only [Act.put,slA,slB,slC]
             refine Rob.cv (.int .i64 (least f[k].pages)) rfl rfl rfl (fun _ _=>ext_trans) (fun w1 hx hH=>?_) (fun lo22 hi22 hlo22 hhi22=>?_)
             ·unfold RunTo;go_simp;exact (l3Least_c _ f[k].pages f[k].worn _ (hpp2.ext (ext_trans (ext_alloc (ext_alloc hX _) _) hx)) hpl2).mono fun e w' h=>h.to
             simp only [Act.put,slA,slB,slC]
             refine Rob.cv (.int .i64 (most f[i].pages)) rfl rfl rfl (fun _ _=>ext_trans) (fun w1 hx hH=>?_) (fun lo24 hi24 hlo24 hhi24=>?_)
             ·unfold RunTo;go_simp;exact (l3Most_c _ f[i].pages f[i].worn _ (hpp.ext (ext_trans (ext_alloc (ext_alloc hX _) _) hx)) hpl).mono fun e w' h=>h.to
             simp only [Act.put,slA,slB,slC]
             refine Rob.yg (v:=?_) rfl rfl (fun w1 hx hH=>?_) ?_;rotate_left
             ·go_simp;first | done | rfl | exact (Bool.not_not _).symm
             simp only [Act.put,slA,slB,slC]
             refine Rob.y (v:=?_) rfl rfl (fun w1 hx hH=>?_) ?_;rotate_left
             ·go_simp;first | done | rfl | exact (Bool.not_not _).symm
             simp only [Act.put,slA,slB,slC]
           rotate_right
           focus
            try contradiction
            all_goals
             simp only [Act.put,slA,slB,slC]
             iterate 5
              refine Rob.no rfl rfl ?_
              simp only [Act.put,slA,slB,slC]
             refine Rob.y (v:=?_) rfl rfl (fun w1 hx hH=>?_) ?_;rotate_left
             ·go_simp;first | done | rfl | exact (Bool.not_not _).symm
             simp only [Act.put,slA,slB,slC]
         rotate_right
         focus
          try contradiction
          all_goals
           simp only [Act.put,slA,slB,slC]
           iterate 5
            refine Rob.no rfl rfl ?_
            simp only [Act.put,slA,slB,slC]
           refine Rob.y (v:=?_) rfl rfl (fun w1 hx hH=>?_) ?_;rotate_left
           ·go_simp;first | done | rfl | exact (Bool.not_not _).symm
           simp only [Act.put,slA,slB,slC]
           refine Rob.yB (b:=?_) rfl rfl (fun w1 hx hH=>?_) (fun hb20=>?_) (fun hb20=>?_);rotate_left
           ·go_simp;first | done | rfl | exact (Bool.not_not _).symm
           focus
            try contradiction
            all_goals
             simp only [Act.put,slA,slB,slC]
             iterate 2
              refine Rob.yg (v:=?_) rfl rfl (fun w1 hx hH=>?_) ?_;rotate_left
              ·(obtain ⟨hcx,hfx⟩:=bcell hx);go_simp;first | done | rfl
              simp only [Act.put,slA,slB,slC]
             refine Rob.cv (.int .i64 (least f[k].pages)) rfl rfl rfl (fun _ _=>ext_trans) (fun w1 hx hH=>?_) (fun lo22 hi22 hlo22 hhi22=>?_)
             ·unfold RunTo;go_simp;exact (l3Least_c _ f[k].pages f[k].worn _ (hpp2.ext (ext_trans (ext_alloc (ext_alloc hX _) _) hx)) hpl2).mono fun e w' h=>h.to
             simp only [Act.put,slA,slB,slC]
             refine Rob.cv (.int .i64 (most f[i].pages)) rfl rfl rfl (fun _ _=>ext_trans) (fun w1 hx hH=>?_) (fun lo24 hi24 hlo24 hhi24=>?_)
             ·unfold RunTo;go_simp;exact (l3Most_c _ f[i].pages f[i].worn _ (hpp.ext (ext_trans (ext_alloc (ext_alloc hX _) _) hx)) hpl).mono fun e w' h=>h.to
             simp only [Act.put,slA,slB,slC]
             refine Rob.yg (v:=?_) rfl rfl (fun w1 hx hH=>?_) ?_;rotate_left
             ·go_simp;first | done | rfl | exact (Bool.not_not _).symm
             simp only [Act.put,slA,slB,slC]
             refine Rob.y (v:=?_) rfl rfl (fun w1 hx hH=>?_) ?_;rotate_left
             ·go_simp;first | done | rfl | exact (Bool.not_not _).symm
             simp only [Act.put,slA,slB,slC]
           rotate_right
           focus
            try contradiction
            all_goals
             simp only [Act.put,slA,slB,slC]
             iterate 5
              refine Rob.no rfl rfl ?_
              simp only [Act.put,slA,slB,slC]
             refine Rob.y (v:=?_) rfl rfl (fun w1 hx hH=>?_) ?_;rotate_left
             ·go_simp;first | done | rfl | exact (Bool.not_not _).symm
             simp only [Act.put,slA,slB,slC]
       all_goals
        refine fin_nil (fun w2 hx2 _=>?_)
        have X2:=ext_trans (ext_alloc (ext_alloc hX _) _) hx2
        go_wp2_with fail
       all_goals try
        go_ret
        have hr:=HR.out
        rw [if_pos (by simp [badPair,hik, *])] at hr
        exact ⟨by rw [← hr];rfl,X2⟩
       all_goals
        have hb1 : (decide (i ≠ k) && decide (0 < most f[i].pages) && decide (0 < most f[k].pages) && decide (least f[i].pages < most f[k].pages) && decide (least f[k].pages < most f[i].pages)) = false:=by simp [hik, *]
        have HB1:=Lib.hid hb1;clear hb1
        refine wp_region_ext [5,10,15,19,24,28,30] [0,1,2,3,4,5,6,7,8,9,10,11,12,13,14,15,16,17,18,19,20,21,22,23,24,25,26,27,29,28,30,31,32,33,34] [] [] (by kernel_rfl) (by kernel_rfl) ?late ?_
        case late=>exact fun f hf=>absurd hf List.not_mem_nil
        iterate 4
         refine Rob.y (v:=?_) rfl rfl (fun w1 hx hH=>?_) ?_;rotate_left
         ·go_simp;first | done | rfl | exact (Bool.not_not _).symm
         simp only [Act.put,slA,slB,slC]
        refine Rob.yg (v:=?_) rfl rfl (fun w1 hx hH=>?_) ?_;rotate_left
        ·(obtain ⟨hcx,hfx⟩:=bcell (ext_trans hx2 hx));go_simp;first | done | rfl
        simp only [Act.put,slA,slB,slC]
        refine Rob.cv (.int .i64 (cleanN f[i].pages)) rfl rfl rfl (fun _ _=>ext_trans) (fun w1 hx hH=>?_) (fun lo5 hi5 hlo5 hhi5=>?_)
        ·unfold RunTo;go_simp;exact (l2Clean_c _ f[i].pages f[i].worn _ (hpp.ext (ext_trans X2 hx)) hpl).mono fun e w' h=>h.to
        simp only [Act.put,slA,slB,slC]
        refine Rob.yg (v:=?_) rfl rfl (fun w1 hx hH=>?_) ?_;rotate_left
        ·go_simp;first | done | rfl | exact (Bool.not_not _).symm
        simp only [Act.put,slA,slB,slC]
        refine Rob.y (v:=?_) rfl rfl (fun w1 hx hH=>?_) ?_;rotate_left
        ·go_simp;first | done | rfl | exact (Bool.not_not _).symm
        simp only [Act.put,slA,slB,slC]
        refine Rob.yB (b:=?_) rfl rfl (fun w1 hx hH=>?_) (fun hb8=>?_) (fun hb8=>?_);rotate_left
        ·go_simp;first | done | rfl | exact (Bool.not_not _).symm
        focus
         try contradiction
         all_goals
          simp only [Act.put,slA,slB,slC]
          refine Rob.yg (v:=?_) rfl rfl (fun w1 hx hH=>?_) ?_;rotate_left
          ·(obtain ⟨hcx,hfx⟩:=bcell (ext_trans hx2 hx));go_simp;first | done | rfl
          simp only [Act.put,slA,slB,slC]
          refine Rob.cv (.int .i64 (cleanN f[i].pages)) rfl rfl rfl (fun _ _=>ext_trans) (fun w1 hx hH=>?_) (fun lo10 hi10 hlo10 hhi10=>?_)
          ·unfold RunTo;go_simp;exact (l2Clean_c _ f[i].pages f[i].worn _ (hpp.ext (ext_trans X2 hx)) hpl).mono fun e w' h=>h.to
          simp only [Act.put,slA,slB,slC]
          refine Rob.yg (v:=?_) rfl rfl (fun w1 hx hH=>?_) ?_;rotate_left
          ·go_simp;first | done | rfl | exact (Bool.not_not _).symm
          simp only [Act.put,slA,slB,slC]
          refine Rob.y (v:=?_) rfl rfl (fun w1 hx hH=>?_) ?_;rotate_left
          ·go_simp;first | done | rfl | exact (Bool.not_not _).symm
          simp only [Act.put,slA,slB,slC]
          refine Rob.yB (b:=?_) rfl rfl (fun w1 hx hH=>?_) (fun hb13=>?_) (fun hb13=>?_);rotate_left
          ·go_simp;first | done | rfl | exact (Bool.not_not _).symm
          focus
           try contradiction
           all_goals
            simp only [Act.put,slA,slB,slC]
            refine Rob.yg (v:=?_) rfl rfl (fun w1 hx hH=>?_) ?_;rotate_left
            ·(obtain ⟨hcx,hfx⟩:=bcell (ext_trans hx2 hx));go_simp;first | done | rfl
            simp only [Act.put,slA,slB,slC]
            refine Rob.cv (.int .i64 (cleanN f[k].pages)) rfl rfl rfl (fun _ _=>ext_trans) (fun w1 hx hH=>?_) (fun lo15 hi15 hlo15 hhi15=>?_)
            ·unfold RunTo;go_simp;exact (l2Clean_c _ f[k].pages f[k].worn _ (hpp2.ext (ext_trans X2 hx)) hpl2).mono fun e w' h=>h.to
            simp only [Act.put,slA,slB,slC]
            refine Rob.yg (v:=?_) rfl rfl (fun w1 hx hH=>?_) ?_;rotate_left
            ·go_simp;first | done | rfl | exact (Bool.not_not _).symm
            simp only [Act.put,slA,slB,slC]
            refine Rob.yB (b:=?_) rfl rfl (fun w1 hx hH=>?_) (fun hb17=>?_) (fun hb17=>?_);rotate_left
            ·go_simp;first | done | rfl | exact (Bool.not_not _).symm
            focus
             try contradiction
             all_goals
              simp only [Act.put,slA,slB,slC]
              refine Rob.yg (v:=?_) rfl rfl (fun w1 hx hH=>?_) ?_;rotate_left
              ·(obtain ⟨hcx,hfx⟩:=bcell (ext_trans hx2 hx));go_simp;first | done | rfl
              simp only [Act.put,slA,slB,slC]
              refine Rob.cv (.int .i64 (cleanN f[k].pages)) rfl rfl rfl (fun _ _=>ext_trans) (fun w1 hx hH=>?_) (fun lo19 hi19 hlo19 hhi19=>?_)
              ·unfold RunTo;go_simp;exact (l2Clean_c _ f[k].pages f[k].worn _ (hpp2.ext (ext_trans X2 hx)) hpl2).mono fun e w' h=>h.to
              simp only [Act.put,slA,slB,slC]
              iterate 2
               refine Rob.yg (v:=?_) rfl rfl (fun w1 hx hH=>?_) ?_;rotate_left
               ·go_simp;first | done | rfl | exact (Bool.not_not _).symm
               simp only [Act.put,slA,slB,slC]
              refine Rob.yB (b:=?_) rfl rfl (fun w1 hx hH=>?_) (fun hb22=>?_) (fun hb22=>?_);rotate_left
              ·go_simp;first | done | rfl | exact (Bool.not_not _).symm
              focus
               try contradiction
               all_goals
                simp only [Act.put,slA,slB,slC]
                iterate 10
                 refine Rob.no rfl rfl ?_
                 simp only [Act.put,slA,slB,slC]
                refine Rob.yg (v:=?_) rfl rfl (fun w1 hx hH=>?_) ?_;rotate_left
                ·go_simp;first | done | rfl | exact (Bool.not_not _).symm
                simp only [Act.put,slA,slB,slC]
                refine Rob.y (v:=?_) rfl rfl (fun w1 hx hH=>?_) ?_;rotate_left
                ·go_simp;first | done | rfl | exact (Bool.not_not _).symm
                simp only [Act.put,slA,slB,slC]
              rotate_right
              focus
               try contradiction
               all_goals
                simp only [Act.put,slA,slB,slC]
                refine Rob.yg (v:=?_) rfl rfl (fun w1 hx hH=>?_) ?_;rotate_left
                ·(obtain ⟨hcx,hfx⟩:=bcell (ext_trans hx2 hx));go_simp;first | done | rfl
                simp only [Act.put,slA,slB,slC]
                refine Rob.cv (.int .i64 (most f[i].pages)) rfl rfl rfl (fun _ _=>ext_trans) (fun w1 hx hH=>?_) (fun lo24 hi24 hlo24 hhi24=>?_)
                ·unfold RunTo;go_simp;exact (l3Most_c _ f[i].pages f[i].worn _ (hpp.ext (ext_trans X2 hx)) hpl).mono fun e w' h=>h.to
                simp only [Act.put,slA,slB,slC]
                refine Rob.yg (v:=?_) rfl rfl (fun w1 hx hH=>?_) ?_;rotate_left
                ·go_simp;first | done | rfl | exact (Bool.not_not _).symm
                simp only [Act.put,slA,slB,slC]
                refine Rob.yB (b:=?_) rfl rfl (fun w1 hx hH=>?_) (fun hb26=>?_) (fun hb26=>?_);rotate_left
                ·go_simp;first | done | rfl | exact (Bool.not_not _).symm
                focus
                 try contradiction
                 all_goals
                  simp only [Act.put,slA,slB,slC]
                  iterate 2
                   refine Rob.yg (v:=?_) rfl rfl (fun w1 hx hH=>?_) ?_;rotate_left
                   ·(obtain ⟨hcx,hfx⟩:=bcell (ext_trans hx2 hx));go_simp;first | done | rfl
                   simp only [Act.put,slA,slB,slC]
                  refine Rob.cv (.int .i64 (most f[k].pages)) rfl rfl rfl (fun _ _=>ext_trans) (fun w1 hx hH=>?_) (fun lo28 hi28 hlo28 hhi28=>?_)
                  ·unfold RunTo;go_simp;exact (l3Most_c _ f[k].pages f[k].worn _ (hpp2.ext (ext_trans X2 hx)) hpl2).mono fun e w' h=>h.to
                  simp only [Act.put,slA,slB,slC]
                  refine Rob.cv (.int .i64 (most f[i].pages)) rfl rfl rfl (fun _ _=>ext_trans) (fun w1 hx hH=>?_) (fun lo30 hi30 hlo30 hhi30=>?_)
                  ·unfold RunTo;go_simp;exact (l3Most_c _ f[i].pages f[i].worn _ (hpp.ext (ext_trans X2 hx)) hpl).mono fun e w' h=>h.to
                  simp only [Act.put,slA,slB,slC]
                  iterate 3
                   refine Rob.yg (v:=?_) rfl rfl (fun w1 hx hH=>?_) ?_;rotate_left
                   ·go_simp;first | done | rfl | exact (Bool.not_not _).symm
                   simp only [Act.put,slA,slB,slC]
                  refine Rob.y (v:=?_) rfl rfl (fun w1 hx hH=>?_) ?_;rotate_left
                  ·go_simp;first | done | rfl | exact (Bool.not_not _).symm
                  simp only [Act.put,slA,slB,slC]
                rotate_right
                focus
                 try contradiction
                 all_goals
                  simp only [Act.put,slA,slB,slC]
                  iterate 5
                   refine Rob.no rfl rfl ?_
                   simp only [Act.put,slA,slB,slC]
                  iterate 2
                   refine Rob.yg (v:=?_) rfl rfl (fun w1 hx hH=>?_) ?_;rotate_left
                   ·go_simp;first | done | rfl | exact (Bool.not_not _).symm
                   simp only [Act.put,slA,slB,slC]
                  refine Rob.y (v:=?_) rfl rfl (fun w1 hx hH=>?_) ?_;rotate_left
                  ·go_simp;first | done | rfl | exact (Bool.not_not _).symm
                  simp only [Act.put,slA,slB,slC]
            rotate_right
            focus
             try contradiction
             all_goals
              simp only [Act.put,slA,slB,slC]
              iterate 3
               refine Rob.no rfl rfl ?_
               simp only [Act.put,slA,slB,slC]
              refine Rob.yg (v:=?_) rfl rfl (fun w1 hx hH=>?_) ?_;rotate_left
              ·go_simp;first | done | rfl | exact (Bool.not_not _).symm
              simp only [Act.put,slA,slB,slC]
              refine Rob.yB (b:=?_) rfl rfl (fun w1 hx hH=>?_) (fun hb22=>?_) (fun hb22=>?_);rotate_left
              ·go_simp;first | done | rfl | exact (Bool.not_not _).symm
              focus
               try contradiction
               all_goals
                simp only [Act.put,slA,slB,slC]
                iterate 10
                 refine Rob.no rfl rfl ?_
                 simp only [Act.put,slA,slB,slC]
                refine Rob.yg (v:=?_) rfl rfl (fun w1 hx hH=>?_) ?_;rotate_left
                ·go_simp;first | done | rfl | exact (Bool.not_not _).symm
                simp only [Act.put,slA,slB,slC]
                refine Rob.y (v:=?_) rfl rfl (fun w1 hx hH=>?_) ?_;rotate_left
                ·go_simp;first | done | rfl | exact (Bool.not_not _).symm
                simp only [Act.put,slA,slB,slC]
              rotate_right
              focus
               try contradiction
               all_goals
                simp only [Act.put,slA,slB,slC]
                refine Rob.yg (v:=?_) rfl rfl (fun w1 hx hH=>?_) ?_;rotate_left
                ·(obtain ⟨hcx,hfx⟩:=bcell (ext_trans hx2 hx));go_simp;first | done | rfl
                simp only [Act.put,slA,slB,slC]
                refine Rob.cv (.int .i64 (most f[i].pages)) rfl rfl rfl (fun _ _=>ext_trans) (fun w1 hx hH=>?_) (fun lo24 hi24 hlo24 hhi24=>?_)
                ·unfold RunTo;go_simp;exact (l3Most_c _ f[i].pages f[i].worn _ (hpp.ext (ext_trans X2 hx)) hpl).mono fun e w' h=>h.to
                simp only [Act.put,slA,slB,slC]
                refine Rob.yg (v:=?_) rfl rfl (fun w1 hx hH=>?_) ?_;rotate_left
                ·go_simp;first | done | rfl | exact (Bool.not_not _).symm
                simp only [Act.put,slA,slB,slC]
                refine Rob.yB (b:=?_) rfl rfl (fun w1 hx hH=>?_) (fun hb26=>?_) (fun hb26=>?_);rotate_left
                ·go_simp;first | done | rfl | exact (Bool.not_not _).symm
                focus
                 try contradiction
                 all_goals
                  simp only [Act.put,slA,slB,slC]
                  iterate 2
                   refine Rob.yg (v:=?_) rfl rfl (fun w1 hx hH=>?_) ?_;rotate_left
                   ·(obtain ⟨hcx,hfx⟩:=bcell (ext_trans hx2 hx));go_simp;first | done | rfl
                   simp only [Act.put,slA,slB,slC]
                  refine Rob.cv (.int .i64 (most f[k].pages)) rfl rfl rfl (fun _ _=>ext_trans) (fun w1 hx hH=>?_) (fun lo28 hi28 hlo28 hhi28=>?_)
                  ·unfold RunTo;go_simp;exact (l3Most_c _ f[k].pages f[k].worn _ (hpp2.ext (ext_trans X2 hx)) hpl2).mono fun e w' h=>h.to
                  simp only [Act.put,slA,slB,slC]
                  refine Rob.cv (.int .i64 (most f[i].pages)) rfl rfl rfl (fun _ _=>ext_trans) (fun w1 hx hH=>?_) (fun lo30 hi30 hlo30 hhi30=>?_)
                  ·unfold RunTo;go_simp;exact (l3Most_c _ f[i].pages f[i].worn _ (hpp.ext (ext_trans X2 hx)) hpl).mono fun e w' h=>h.to
                  simp only [Act.put,slA,slB,slC]
                  iterate 3
                   refine Rob.yg (v:=?_) rfl rfl (fun w1 hx hH=>?_) ?_;rotate_left
                   ·go_simp;first | done | rfl | exact (Bool.not_not _).symm
                   simp only [Act.put,slA,slB,slC]
                  refine Rob.y (v:=?_) rfl rfl (fun w1 hx hH=>?_) ?_;rotate_left
                  ·go_simp;first | done | rfl | exact (Bool.not_not _).symm
                  simp only [Act.put,slA,slB,slC]
                rotate_right
                focus
                 try contradiction
                 all_goals
                  simp only [Act.put,slA,slB,slC]
                  iterate 5
                   refine Rob.no rfl rfl ?_
                   simp only [Act.put,slA,slB,slC]
                  iterate 2
                   refine Rob.yg (v:=?_) rfl rfl (fun w1 hx hH=>?_) ?_;rotate_left
                   ·go_simp;first | done | rfl | exact (Bool.not_not _).symm
                   simp only [Act.put,slA,slB,slC]
                  refine Rob.y (v:=?_) rfl rfl (fun w1 hx hH=>?_) ?_;rotate_left
                  ·go_simp;first | done | rfl | exact (Bool.not_not _).symm
                  simp only [Act.put,slA,slB,slC]
          rotate_right
          focus
           try contradiction
           all_goals
            simp only [Act.put,slA,slB,slC]
            iterate 20
             refine Rob.no rfl rfl ?_
             simp only [Act.put,slA,slB,slC]
            refine Rob.y (v:=?_) rfl rfl (fun w1 hx hH=>?_) ?_;rotate_left
            ·go_simp;first | done | rfl | exact (Bool.not_not _).symm
            simp only [Act.put,slA,slB,slC]
        rotate_right
        focus
         try contradiction
         all_goals
          simp only [Act.put,slA,slB,slC]
          iterate 3
           refine Rob.no rfl rfl ?_
           simp only [Act.put,slA,slB,slC]
          refine Rob.y (v:=?_) rfl rfl (fun w1 hx hH=>?_) ?_;rotate_left
          ·go_simp;first | done | rfl | exact (Bool.not_not _).symm
          simp only [Act.put,slA,slB,slC]
          refine Rob.yB (b:=?_) rfl rfl (fun w1 hx hH=>?_) (fun hb13=>?_) (fun hb13=>?_);rotate_left
          ·go_simp;first | done | rfl | exact (Bool.not_not _).symm
          focus
           try contradiction
           all_goals
            simp only [Act.put,slA,slB,slC]
            refine Rob.yg (v:=?_) rfl rfl (fun w1 hx hH=>?_) ?_;rotate_left
            ·(obtain ⟨hcx,hfx⟩:=bcell (ext_trans hx2 hx));go_simp;first | done | rfl
            simp only [Act.put,slA,slB,slC]
            refine Rob.cv (.int .i64 (cleanN f[k].pages)) rfl rfl rfl (fun _ _=>ext_trans) (fun w1 hx hH=>?_) (fun lo15 hi15 hlo15 hhi15=>?_)
            ·unfold RunTo;go_simp;exact (l2Clean_c _ f[k].pages f[k].worn _ (hpp2.ext (ext_trans X2 hx)) hpl2).mono fun e w' h=>h.to
            simp only [Act.put,slA,slB,slC]
            refine Rob.yg (v:=?_) rfl rfl (fun w1 hx hH=>?_) ?_;rotate_left
            ·go_simp;first | done | rfl | exact (Bool.not_not _).symm
            simp only [Act.put,slA,slB,slC]
            refine Rob.yB (b:=?_) rfl rfl (fun w1 hx hH=>?_) (fun hb17=>?_) (fun hb17=>?_);rotate_left
            ·go_simp;first | done | rfl | exact (Bool.not_not _).symm
            focus
             try contradiction
             all_goals
              simp only [Act.put,slA,slB,slC]
              refine Rob.yg (v:=?_) rfl rfl (fun w1 hx hH=>?_) ?_;rotate_left
              ·(obtain ⟨hcx,hfx⟩:=bcell (ext_trans hx2 hx));go_simp;first | done | rfl
              simp only [Act.put,slA,slB,slC]
              refine Rob.cv (.int .i64 (cleanN f[k].pages)) rfl rfl rfl (fun _ _=>ext_trans) (fun w1 hx hH=>?_) (fun lo19 hi19 hlo19 hhi19=>?_)
              ·unfold RunTo;go_simp;exact (l2Clean_c _ f[k].pages f[k].worn _ (hpp2.ext (ext_trans X2 hx)) hpl2).mono fun e w' h=>h.to
              simp only [Act.put,slA,slB,slC]
              iterate 2
               refine Rob.yg (v:=?_) rfl rfl (fun w1 hx hH=>?_) ?_;rotate_left
               ·go_simp;first | done | rfl | exact (Bool.not_not _).symm
               simp only [Act.put,slA,slB,slC]
              refine Rob.yB (b:=?_) rfl rfl (fun w1 hx hH=>?_) (fun hb22=>?_) (fun hb22=>?_);rotate_left
              ·go_simp;first | done | rfl | exact (Bool.not_not _).symm
              focus
               try contradiction
               all_goals
                simp only [Act.put,slA,slB,slC]
                iterate 10
                 refine Rob.no rfl rfl ?_
                 simp only [Act.put,slA,slB,slC]
                refine Rob.yg (v:=?_) rfl rfl (fun w1 hx hH=>?_) ?_;rotate_left
                ·go_simp;first | done | rfl | exact (Bool.not_not _).symm
                simp only [Act.put,slA,slB,slC]
                refine Rob.y (v:=?_) rfl rfl (fun w1 hx hH=>?_) ?_;rotate_left
                ·go_simp;first | done | rfl | exact (Bool.not_not _).symm
                simp only [Act.put,slA,slB,slC]
              rotate_right
              focus
               try contradiction
               all_goals
                simp only [Act.put,slA,slB,slC]
                refine Rob.yg (v:=?_) rfl rfl (fun w1 hx hH=>?_) ?_;rotate_left
                ·(obtain ⟨hcx,hfx⟩:=bcell (ext_trans hx2 hx));go_simp;first | done | rfl
                simp only [Act.put,slA,slB,slC]
                refine Rob.cv (.int .i64 (most f[i].pages)) rfl rfl rfl (fun _ _=>ext_trans) (fun w1 hx hH=>?_) (fun lo24 hi24 hlo24 hhi24=>?_)
                ·unfold RunTo;go_simp;exact (l3Most_c _ f[i].pages f[i].worn _ (hpp.ext (ext_trans X2 hx)) hpl).mono fun e w' h=>h.to
                simp only [Act.put,slA,slB,slC]
                refine Rob.yg (v:=?_) rfl rfl (fun w1 hx hH=>?_) ?_;rotate_left
                ·go_simp;first | done | rfl | exact (Bool.not_not _).symm
                simp only [Act.put,slA,slB,slC]
                refine Rob.yB (b:=?_) rfl rfl (fun w1 hx hH=>?_) (fun hb26=>?_) (fun hb26=>?_);rotate_left
                ·go_simp;first | done | rfl | exact (Bool.not_not _).symm
                focus
                 try contradiction
                 all_goals
                  simp only [Act.put,slA,slB,slC]
                  iterate 2
                   refine Rob.yg (v:=?_) rfl rfl (fun w1 hx hH=>?_) ?_;rotate_left
                   ·(obtain ⟨hcx,hfx⟩:=bcell (ext_trans hx2 hx));go_simp;first | done | rfl
                   simp only [Act.put,slA,slB,slC]
                  refine Rob.cv (.int .i64 (most f[k].pages)) rfl rfl rfl (fun _ _=>ext_trans) (fun w1 hx hH=>?_) (fun lo28 hi28 hlo28 hhi28=>?_)
                  ·unfold RunTo;go_simp;exact (l3Most_c _ f[k].pages f[k].worn _ (hpp2.ext (ext_trans X2 hx)) hpl2).mono fun e w' h=>h.to
                  simp only [Act.put,slA,slB,slC]
                  refine Rob.cv (.int .i64 (most f[i].pages)) rfl rfl rfl (fun _ _=>ext_trans) (fun w1 hx hH=>?_) (fun lo30 hi30 hlo30 hhi30=>?_)
                  ·unfold RunTo;go_simp;exact (l3Most_c _ f[i].pages f[i].worn _ (hpp.ext (ext_trans X2 hx)) hpl).mono fun e w' h=>h.to
                  simp only [Act.put,slA,slB,slC]
                  iterate 3
                   refine Rob.yg (v:=?_) rfl rfl (fun w1 hx hH=>?_) ?_;rotate_left
                   ·go_simp;first | done | rfl | exact (Bool.not_not _).symm
                   simp only [Act.put,slA,slB,slC]
                  refine Rob.y (v:=?_) rfl rfl (fun w1 hx hH=>?_) ?_;rotate_left
                  ·go_simp;first | done | rfl | exact (Bool.not_not _).symm
                  simp only [Act.put,slA,slB,slC]
                rotate_right
                focus
                 try contradiction
                 all_goals
                  simp only [Act.put,slA,slB,slC]
                  iterate 5
                   refine Rob.no rfl rfl ?_
                   simp only [Act.put,slA,slB,slC]
                  iterate 2
                   refine Rob.yg (v:=?_) rfl rfl (fun w1 hx hH=>?_) ?_;rotate_left
                   ·go_simp;first | done | rfl | exact (Bool.not_not _).symm
                   simp only [Act.put,slA,slB,slC]
                  refine Rob.y (v:=?_) rfl rfl (fun w1 hx hH=>?_) ?_;rotate_left
                  ·go_simp;first | done | rfl | exact (Bool.not_not _).symm
                  simp only [Act.put,slA,slB,slC]
            rotate_right
            focus
             try contradiction
             all_goals
              simp only [Act.put,slA,slB,slC]
              iterate 3
               refine Rob.no rfl rfl ?_
               simp only [Act.put,slA,slB,slC]
              refine Rob.yg (v:=?_) rfl rfl (fun w1 hx hH=>?_) ?_;rotate_left
              ·go_simp;first | done | rfl | exact (Bool.not_not _).symm
              simp only [Act.put,slA,slB,slC]
              refine Rob.yB (b:=?_) rfl rfl (fun w1 hx hH=>?_) (fun hb22=>?_) (fun hb22=>?_);rotate_left
              ·go_simp;first | done | rfl | exact (Bool.not_not _).symm
              focus
               try contradiction
               all_goals
                simp only [Act.put,slA,slB,slC]
                iterate 10
                 refine Rob.no rfl rfl ?_
                 simp only [Act.put,slA,slB,slC]
                refine Rob.yg (v:=?_) rfl rfl (fun w1 hx hH=>?_) ?_;rotate_left
                ·go_simp;first | done | rfl | exact (Bool.not_not _).symm
                simp only [Act.put,slA,slB,slC]
                refine Rob.y (v:=?_) rfl rfl (fun w1 hx hH=>?_) ?_;rotate_left
                ·go_simp;first | done | rfl | exact (Bool.not_not _).symm
                simp only [Act.put,slA,slB,slC]
              rotate_right
              focus
               try contradiction
               all_goals
                simp only [Act.put,slA,slB,slC]
                refine Rob.yg (v:=?_) rfl rfl (fun w1 hx hH=>?_) ?_;rotate_left
                ·(obtain ⟨hcx,hfx⟩:=bcell (ext_trans hx2 hx));go_simp;first | done | rfl
                simp only [Act.put,slA,slB,slC]
                refine Rob.cv (.int .i64 (most f[i].pages)) rfl rfl rfl (fun _ _=>ext_trans) (fun w1 hx hH=>?_) (fun lo24 hi24 hlo24 hhi24=>?_)
                ·unfold RunTo;go_simp;exact (l3Most_c _ f[i].pages f[i].worn _ (hpp.ext (ext_trans X2 hx)) hpl).mono fun e w' h=>h.to
                simp only [Act.put,slA,slB,slC]
                refine Rob.yg (v:=?_) rfl rfl (fun w1 hx hH=>?_) ?_;rotate_left
                ·go_simp;first | done | rfl | exact (Bool.not_not _).symm
                simp only [Act.put,slA,slB,slC]
                refine Rob.yB (b:=?_) rfl rfl (fun w1 hx hH=>?_) (fun hb26=>?_) (fun hb26=>?_);rotate_left
                ·go_simp;first | done | rfl | exact (Bool.not_not _).symm
                focus
                 try contradiction
                 all_goals
                  simp only [Act.put,slA,slB,slC]
                  iterate 2
                   refine Rob.yg (v:=?_) rfl rfl (fun w1 hx hH=>?_) ?_;rotate_left
                   ·(obtain ⟨hcx,hfx⟩:=bcell (ext_trans hx2 hx));go_simp;first | done | rfl
                   simp only [Act.put,slA,slB,slC]
                  refine Rob.cv (.int .i64 (most f[k].pages)) rfl rfl rfl (fun _ _=>ext_trans) (fun w1 hx hH=>?_) (fun lo28 hi28 hlo28 hhi28=>?_)
                  ·unfold RunTo;go_simp;exact (l3Most_c _ f[k].pages f[k].worn _ (hpp2.ext (ext_trans X2 hx)) hpl2).mono fun e w' h=>h.to
                  simp only [Act.put,slA,slB,slC]
                  refine Rob.cv (.int .i64 (most f[i].pages)) rfl rfl rfl (fun _ _=>ext_trans) (fun w1 hx hH=>?_) (fun lo30 hi30 hlo30 hhi30=>?_)
                  ·unfold RunTo;go_simp;exact (l3Most_c _ f[i].pages f[i].worn _ (hpp.ext (ext_trans X2 hx)) hpl).mono fun e w' h=>h.to
                  simp only [Act.put,slA,slB,slC]
                  iterate 3
                   refine Rob.yg (v:=?_) rfl rfl (fun w1 hx hH=>?_) ?_;rotate_left
                   ·go_simp;first | done | rfl | exact (Bool.not_not _).symm
                   simp only [Act.put,slA,slB,slC]
                  refine Rob.y (v:=?_) rfl rfl (fun w1 hx hH=>?_) ?_;rotate_left
                  ·go_simp;first | done | rfl | exact (Bool.not_not _).symm
                  simp only [Act.put,slA,slB,slC]
                rotate_right
                focus
                 try contradiction
                 all_goals
                  simp only [Act.put,slA,slB,slC]
                  iterate 5
                   refine Rob.no rfl rfl ?_
                   simp only [Act.put,slA,slB,slC]
                  iterate 2
                   refine Rob.yg (v:=?_) rfl rfl (fun w1 hx hH=>?_) ?_;rotate_left
                   ·go_simp;first | done | rfl | exact (Bool.not_not _).symm
                   simp only [Act.put,slA,slB,slC]
                  refine Rob.y (v:=?_) rfl rfl (fun w1 hx hH=>?_) ?_;rotate_left
                  ·go_simp;first | done | rfl | exact (Bool.not_not _).symm
                  simp only [Act.put,slA,slB,slC]
          rotate_right
          focus
           try contradiction
           all_goals
            simp only [Act.put,slA,slB,slC]
            iterate 20
             refine Rob.no rfl rfl ?_
             simp only [Act.put,slA,slB,slC]
            refine Rob.y (v:=?_) rfl rfl (fun w1 hx hH=>?_) ?_;rotate_left
            ·go_simp;first | done | rfl | exact (Bool.not_not _).symm
            simp only [Act.put,slA,slB,slC]
        all_goals
         refine fin_nil (fun w3 hx3 _=>?_)
         have X3:=ext_trans X2 hx3
         go_wp2_with fail
        all_goals try
         go_ret
         have hr:=HR.out
         rw [if_pos (by simp [badPair,hik, *])] at hr
         exact ⟨by rw [← hr];rfl,X3⟩
       all_goals
        have hr:=HR.out
        rw [if_neg (by simp [badPair,hik, *])] at hr
        exact ⟨⟨k + 1,by omega,by go_num,X3,Lib.hid hr⟩,by simp [intOf];omega⟩
     ·obtain rfl : k = f.length:=by omega
      rw [List.drop_length,orderIn,Bool.true_and] at HR
      go_wp2
      exact ⟨⟨i + 1,by omega,by go_num,hX,HR⟩,by simp [intOf];omega⟩
   ·obtain rfl : i = f.length:=by omega
    rw [List.drop_length,orderOut] at HR
    have hr:=HR.out
    subst hr
    go_wp2
    go_ret
    exact ⟨rfl,hX⟩
end Go.Bu
namespace Go.Bu
open Go Go.RowKit Go.Plan Go.Proofs
def StoreV (w : World) (fv dv : Value) (s : Store) : Prop:=Flash (Old w) w fv s.flash ∧ Ints (Old w) w dv s.disk
theorem StoreV.ext {w w' : World} {fv dv : Value} {s : Store} (h : StoreV w fv dv s) (hx : Ext w w') : StoreV w' fv dv s:=⟨h.1.ext hx,h.2.ext hx⟩
def badDisk (r : Rec) (d : Int) : Bool:=!inB d 0 9 || (decide (0 < r.seq) && r.kind == 2 && r.val != d)
def diskScan (f : List Block) : Nat → List Int → Bool
 | _,[]=>true
 | i,d :: ds=>if badDisk (last f ((i : Int) + 1)) d then false else diskScan f (i + 1) ds
def storeOkB (s : Store) : Bool:=orderB s.flash && s.disk.length == 6 && diskScan s.flash 0 s.disk
theorem diskScan_drop (f : List Block) (ds : List Int) (k : Nat) (h : k < ds.length) : diskScan f k (ds.drop k) = if badDisk (last f ((k : Int) + 1)) ds[k] then false else diskScan f (k + 1) (ds.drop (k + 1)):=by
 rw [List.drop_eq_getElem_cons h];rfl
theorem orderB_ok {f : List Block} (h : orderB f = true) : flashOkB f = true:=by simp only [orderB,Bool.and_eq_true] at h;exact h.1
theorem pages_short {f : List Block} (h : flashOkB f = true) : ∀ b ∈ f,b.pages.length ≤ 1048576:=fun b hb=>by have:=(flashOk_block h hb).1;omega
theorem storeOk_order {s : Store} (h : storeOkB s = true) : orderB s.flash = true:=by simp only [storeOkB,Bool.and_eq_true] at h;exact h.1.1
theorem storeOk_flash {s : Store} (h : storeOkB s = true) : flashOkB s.flash = true:=orderB_ok (storeOk_order h)
theorem storeOk_disk {s : Store} (h : storeOkB s = true) : s.disk.length = 6:=by simp only [storeOkB,Bool.and_eq_true,beq_iff_eq] at h;exact h.1.2
def readN (s : Store) (n : Nat) : Int:=if 0 < (last s.flash ((n : Int) + 1)).seq then (last s.flash ((n : Int) + 1)).val else s.disk.getD n 0
def dirtyB (s : Store) (addr : Int) : Bool:=decide (0 < (last s.flash addr).seq) && (last s.flash addr).kind == 1
set_option maxHeartbeats 1000000 in
theorem l11Dirty_c (fv dv : Value) (s : Store) (addr : Int) (w : World) (h : StoreV w fv dv s) (hn : s.flash.length ≤ 1048576) (hp : ∀ b ∈ s.flash,b.pages.length ≤ 1048576) :
  Calls Tryz.prog 67 #[.agg #[fv,dv],.int .i64 addr] w (Ret w (.bool (dirtyB s addr))):=by
 have HP:=Lib.hid hp;clear hp
 have HD : Hid (dirtyB s addr = (decide (0 < (last s.flash addr).seq) && (last s.flash addr).kind == 1)):=Lib.hid rfl
 obtain ⟨hF,hD⟩:=h
 obtain ⟨fa,fc,rfl⟩:=hF.form
 obtain ⟨da,dc,rfl⟩:=hD.form
 go_enter Tryz.func67,Tryz.ntmps67
 go_wp2_with fail
 refine (l3Last_c _ s.flash addr _ (hF.ext (ext_alloc (ext_refl _) _)) hn HP.out).mono ?_;rintro e1 w1 ⟨rfl,hx⟩
 obtain ⟨hc,hf,hz,hX⟩:=after1 hx
 generalize last s.flash addr = r at *
 go_wp2_with fail
 all_goals
  go_ret
  try simp only [beq_iff_eq,Bool.not_eq_true,beq_eq_false_iff_ne,ne_eq,bne_iff_ne,bne_eq_false_iff_eq,decide_eq_true_eq,decide_eq_false_iff_not] at *
  exact ⟨by rw [HD.out];first | (simp [*];done) | (simp [*];omega),by go_grown⟩
set_option maxHeartbeats 1000000 in
theorem l11Read_c (fv dv : Value) (s : Store) (n : Nat) (w : World) (h : StoreV w fv dv s) (hn : s.flash.length ≤ 1048576) (hp : ∀ b ∈ s.flash,b.pages.length ≤ 1048576) (hd : n < s.disk.length) (hd2 : s.disk.length ≤ 1048576) :
  Calls Tryz.prog 52 #[.agg #[fv,dv],.int .i64 ((n : Int) + 1)] w (Ret w (.int .i64 (readN s n))):=by
 have HP:=Lib.hid hp;clear hp
 have HD : Hid (readN s n = if 0 < (last s.flash ((n : Int) + 1)).seq then (last s.flash ((n : Int) + 1)).val else s.disk[n]):=Lib.hid (by simp [readN,hd])
 obtain ⟨hF,hD⟩:=h
 obtain ⟨fa,fc,rfl⟩:=hF.form
 obtain ⟨da,dc,rfl⟩:=hD.form
 obtain ⟨b,o,rfl,hb,e0⟩:=hD.at1 hd
 have hb' : b < w.heap.size:=hb
 go_enter Tryz.func52,Tryz.ntmps52
 go_wp2_with fail
 refine (l3Last_c _ s.flash ((n : Int) + 1) _ (hF.ext (ext_alloc (ext_refl _) _)) hn HP.out).mono ?_;rintro e1 w1 ⟨rfl,hx⟩
 obtain ⟨hc,hf,hz,hX⟩:=after1 hx
 have hbw : b < w1.heap.size:=Nat.lt_trans hb' hz
 generalize last s.flash ((n : Int) + 1) = r at *
 go_wp2_with fail
 all_goals
  go_ret
  try simp only [beq_iff_eq,Bool.not_eq_true,beq_eq_false_iff_ne,ne_eq,bne_iff_ne,bne_eq_false_iff_eq,decide_eq_true_eq,decide_eq_false_iff_not] at *
  exact ⟨by rw [HD.out];first | rw [if_pos (by omega)];rfl | rw [if_neg (by omega)];rfl,by go_grown⟩
set_option maxHeartbeats 2000000 in
theorem specStoreOk_c (fv dv : Value) (s : Store) (w : World) (h : StoreV w fv dv s) (hn : s.flash.length ≤ 1048576) :
  Calls Tryz.prog 51 #[.agg #[fv,dv]] w (Ret w (.bool (storeOkB s))):=by
 obtain ⟨hF,hD⟩:=h
 obtain ⟨fa,fc,rfl⟩:=hF.form
 obtain ⟨da,dc,rfl⟩:=hD.form
 have HQ : Hid (storeOkB s = (orderB s.flash && s.disk.length == 6 && diskScan s.flash 0 s.disk)):=Lib.hid rfl
 by_cases hok : orderB s.flash = true ∧ s.disk.length = 6
 ·obtain ⟨hok,hlen⟩:=hok
  have HP:=Lib.hid (pages_short (orderB_ok hok))
  have HL:=Lib.hid hlen
  have hne : (((s.disk.length : Nat) : Int) != 6) = false:=by simp [hlen]
  have HQ2 : Hid (diskScan s.flash 0 (s.disk.drop 0) = storeOkB s):=Lib.hid (by rw [HQ.out,hok,hlen];rfl)
  clear hlen HQ
  generalize storeOkB s = A at *
  go_enter Tryz.func51,Tryz.ntmps51
  go_wp2_with fail
  refine (specFindOrder_c _ s.flash _ (hF.ext (ext_alloc (ext_refl _) _)) hn).mono ?_;rintro e1 w1 ⟨rfl,hx⟩
  rw [hok]
  have G:=keep_ext hx (hg_new (w:=w) rfl)
  obtain ⟨hc,hf,hz,hX⟩:=after1 hx
  go_wp2_with fail
  clear hc hf hz hne
  go_loopw [3] (fun y wr=>∃ (i : Nat),i ≤ 6 ∧ y = .int .i64 i ∧ Ext w wr ∧ Hid (diskScan s.flash i (s.disk.drop i) = A) ∧ wr.heap[w.heap.size]? = some (.cells #[.slice fa s.flash.length fc,.slice da s.disk.length dc] 42 (0,0))) (fun y _=>6 - (intOf y).toNat)
  case atStart=>exact ⟨0,by omega,rfl,hX,HQ2,G⟩
  case round =>
   clear hX HQ2 G
   obtain ⟨i,hi,rfl,hX,HR,G⟩:=hrel
   obtain ⟨g0,gf⟩:=cellsK G
   by_cases hlt : i < 6
   ·have hil : i < s.disk.length:=by have:=HL.out;omega
    obtain ⟨b,o,rfl,hb,e0⟩:=hD.at1 hil
    have hb' : b < w.heap.size:=hb
    have hbw : b < wr.heap.size:=Nat.lt_of_lt_of_le hb' hX.size
    have hbs:=heap_lt G
    rw [diskScan_drop _ _ _ hil] at HR
    go_wp2_with fail
    refine (l3Last_c _ s.flash ((i : Int) + 1) _ (hF.ext hX) hn HP.out).mono ?_;rintro e2 w2 ⟨rfl,hx2⟩
    generalize last s.flash ((i : Int) + 1) = r at *
    have X2:=ext_trans hX hx2
    have G2:=keep_ext hx2 G
    obtain ⟨g2,gf2⟩:=cellsK G2
    obtain ⟨hc2,hf2⟩:=bcell X2
    have hbw2 : b < w2.heap.size:=Nat.lt_of_lt_of_le hb' X2.size
    have hbs2:=heap_lt G2
    clear g0 gf G hbw hbs hX
    go_wp2_with fail
    refine wp_region_ext [5] [0,1,2,3,4,5,6,7,8,9,10,11,12,13,14,15,16,17,18,19,20,21,22,23,24] [] [] (by kernel_rfl) (by kernel_rfl) ?late ?_
    case late=>exact fun f hf=>absurd hf List.not_mem_nil
    refine Rob.y (v:=?_) rfl rfl (fun w1 hx hH=>?_) ?_;rotate_left
    ·go_simp;first | done | rfl | exact (Bool.not_not _).symm
    simp only [Act.put,slA,slB,slC]
    refine Rob.y (v:=?_) rfl rfl (fun w1 hx hH=>?_) ?_;rotate_left
    ·(obtain ⟨hcx,hfx⟩:=bcell hx);go_simp;first | done | rfl
    simp only [Act.put,slA,slB,slC]
    refine Rob.y (v:=?_) rfl rfl (fun w1 hx hH=>?_) ?_;rotate_left
    ·go_simp;first | done | rfl | exact (Bool.not_not _).symm
    simp only [Act.put,slA,slB,slC]
    iterate 2
     refine Rob.y (v:=?_) rfl rfl (fun w1 hx hH=>?_) ?_;rotate_left
     ·(obtain ⟨hcx,hfx⟩:=bcell hx);go_simp;first | done | rfl
     simp only [Act.put,slA,slB,slC]
    refine Rob.cv (.bool (inB s.disk[i] 0 9)) rfl rfl rfl (fun _ _=>ext_trans) (fun w1 hx hH=>?_) (fun lo5 hi5 hlo5 hhi5=>?_)
    ·unfold RunTo;go_simp;exact (((l6In_c _ _ _ _).mono fun _ _=>RetSame.ret)).mono fun e w' h=>h.to
    simp only [Act.put,slA,slB,slC]
    refine Rob.y (v:=?_) rfl rfl (fun w1 hx hH=>?_) ?_;rotate_left
    ·go_simp;first | done | rfl | exact (Bool.not_not _).symm
    simp only [Act.put,slA,slB,slC]
    refine Rob.yB (b:=?_) rfl rfl (fun w1 hx hH=>?_) (fun hb7=>?_) (fun hb7=>?_);rotate_left
    ·go_simp;first | done | rfl | exact (Bool.not_not _).symm
    focus
     try contradiction
     all_goals
      simp only [Act.put,slA,slB,slC]
      iterate 16
       refine Rob.no rfl rfl ?_
       simp only [Act.put,slA,slB,slC]
      refine Rob.y (v:=?_) rfl rfl (fun w1 hx hH=>?_) ?_;rotate_left
      ·go_simp;first | done | rfl | exact (Bool.not_not _).symm
      simp only [Act.put,slA,slB,slC]
    rotate_right
    focus
     try contradiction
     all_goals
      simp only [Act.put,slA,slB,slC]
      refine Rob.yg (v:=?_) rfl rfl (fun w1 hx hH=>?_) ?_;rotate_left
      ·go_simp;first | done | rfl | exact (Bool.not_not _).symm
      simp only [Act.put,slA,slB,slC]
      refine Rob.yB (b:=?_) rfl rfl (fun w1 hx hH=>?_) (fun hb9=>?_) (fun hb9=>?_);rotate_left
      ·go_simp;first | done | rfl | exact (Bool.not_not _).symm
      focus
       try contradiction
       all_goals
        simp only [Act.put,slA,slB,slC]
        refine Rob.yg (v:=?_) rfl rfl (fun w1 hx hH=>?_) ?_;rotate_left
        ·go_simp;first | done | rfl | exact (Bool.not_not _).symm
        simp only [Act.put,slA,slB,slC]
        refine Rob.yg (v:=?_) rfl rfl (fun w1 hx hH=>?_) ?_;rotate_left
        ·(obtain ⟨hcx,hfx⟩:=bcell hx);go_simp;first | done | rfl
        simp only [Act.put,slA,slB,slC]
        iterate 2
         refine Rob.yg (v:=?_) rfl rfl (fun w1 hx hH=>?_) ?_;rotate_left
         ·go_simp;first | done | rfl | exact (Bool.not_not _).symm
         simp only [Act.put,slA,slB,slC]
        refine Rob.yB (b:=?_) rfl rfl (fun w1 hx hH=>?_) (fun hb14=>?_) (fun hb14=>?_);rotate_left
        ·go_simp;first | done | rfl | exact (Bool.not_not _).symm
        focus
         try contradiction
         all_goals
          simp only [Act.put,slA,slB,slC]
          refine Rob.yg (v:=?_) rfl rfl (fun w1 hx hH=>?_) ?_;rotate_left
          ·go_simp;first | done | rfl | exact (Bool.not_not _).symm
          simp only [Act.put,slA,slB,slC]
          refine Rob.yg (v:=?_) rfl rfl (fun w1 hx hH=>?_) ?_;rotate_left
          ·(obtain ⟨hcx,hfx⟩:=bcell hx);go_simp;first | done | rfl
          simp only [Act.put,slA,slB,slC]
          refine Rob.yg (v:=?_) rfl rfl (fun w1 hx hH=>?_) ?_;rotate_left
          ·go_simp;first | done | rfl | exact (Bool.not_not _).symm
          simp only [Act.put,slA,slB,slC]
          refine Rob.yg (v:=?_) rfl rfl (fun w1 hx hH=>?_) ?_;rotate_left
          ·(obtain ⟨hcx,hfx⟩:=bcell hx);go_simp;first | done | rfl
          simp only [Act.put,slA,slB,slC]
          refine Rob.yg (v:=?_) rfl rfl (fun w1 hx hH=>?_) ?_;rotate_left
          ·go_simp;first | done | rfl | exact (Bool.not_not _).symm
          simp only [Act.put,slA,slB,slC]
          iterate 2
           refine Rob.yg (v:=?_) rfl rfl (fun w1 hx hH=>?_) ?_;rotate_left
           ·(obtain ⟨hcx,hfx⟩:=bcell hx);go_simp;first | done | rfl
           simp only [Act.put,slA,slB,slC]
          iterate 2
           refine Rob.yg (v:=?_) rfl rfl (fun w1 hx hH=>?_) ?_;rotate_left
           ·go_simp;first | done | rfl | exact (Bool.not_not _).symm
           simp only [Act.put,slA,slB,slC]
          refine Rob.y (v:=?_) rfl rfl (fun w1 hx hH=>?_) ?_;rotate_left
          ·go_simp;first | done | rfl | exact (Bool.not_not _).symm
          simp only [Act.put,slA,slB,slC]
        rotate_right
        focus
         try contradiction
         all_goals
          simp only [Act.put,slA,slB,slC]
          iterate 8
           refine Rob.no rfl rfl ?_
           simp only [Act.put,slA,slB,slC]
          refine Rob.yg (v:=?_) rfl rfl (fun w1 hx hH=>?_) ?_;rotate_left
          ·go_simp;first | done | rfl | exact (Bool.not_not _).symm
          simp only [Act.put,slA,slB,slC]
          refine Rob.y (v:=?_) rfl rfl (fun w1 hx hH=>?_) ?_;rotate_left
          ·go_simp;first | done | rfl | exact (Bool.not_not _).symm
          simp only [Act.put,slA,slB,slC]
      rotate_right
      focus
       try contradiction
       all_goals
        simp only [Act.put,slA,slB,slC]
        iterate 3
         refine Rob.no rfl rfl ?_
         simp only [Act.put,slA,slB,slC]
        refine Rob.yg (v:=?_) rfl rfl (fun w1 hx hH=>?_) ?_;rotate_left
        ·go_simp;first | done | rfl | exact (Bool.not_not _).symm
        simp only [Act.put,slA,slB,slC]
        refine Rob.yB (b:=?_) rfl rfl (fun w1 hx hH=>?_) (fun hb14=>?_) (fun hb14=>?_);rotate_left
        ·go_simp;first | done | rfl | exact (Bool.not_not _).symm
        focus
         try contradiction
         all_goals
          simp only [Act.put,slA,slB,slC]
          refine Rob.yg (v:=?_) rfl rfl (fun w1 hx hH=>?_) ?_;rotate_left
          ·go_simp;first | done | rfl | exact (Bool.not_not _).symm
          simp only [Act.put,slA,slB,slC]
          refine Rob.yg (v:=?_) rfl rfl (fun w1 hx hH=>?_) ?_;rotate_left
          ·(obtain ⟨hcx,hfx⟩:=bcell hx);go_simp;first | done | rfl
          simp only [Act.put,slA,slB,slC]
          refine Rob.yg (v:=?_) rfl rfl (fun w1 hx hH=>?_) ?_;rotate_left
          ·go_simp;first | done | rfl | exact (Bool.not_not _).symm
          simp only [Act.put,slA,slB,slC]
          refine Rob.yg (v:=?_) rfl rfl (fun w1 hx hH=>?_) ?_;rotate_left
          ·(obtain ⟨hcx,hfx⟩:=bcell hx);go_simp;first | done | rfl
          simp only [Act.put,slA,slB,slC]
          refine Rob.yg (v:=?_) rfl rfl (fun w1 hx hH=>?_) ?_;rotate_left
          ·go_simp;first | done | rfl | exact (Bool.not_not _).symm
          simp only [Act.put,slA,slB,slC]
          iterate 2
           refine Rob.yg (v:=?_) rfl rfl (fun w1 hx hH=>?_) ?_;rotate_left
           ·(obtain ⟨hcx,hfx⟩:=bcell hx);go_simp;first | done | rfl
           simp only [Act.put,slA,slB,slC]
          iterate 2
           refine Rob.yg (v:=?_) rfl rfl (fun w1 hx hH=>?_) ?_;rotate_left
           ·go_simp;first | done | rfl | exact (Bool.not_not _).symm
           simp only [Act.put,slA,slB,slC]
          refine Rob.y (v:=?_) rfl rfl (fun w1 hx hH=>?_) ?_;rotate_left
          ·go_simp;first | done | rfl | exact (Bool.not_not _).symm
          simp only [Act.put,slA,slB,slC]
        rotate_right
        focus
         try contradiction
         all_goals
          simp only [Act.put,slA,slB,slC]
          iterate 8
           refine Rob.no rfl rfl ?_
           simp only [Act.put,slA,slB,slC]
          refine Rob.yg (v:=?_) rfl rfl (fun w1 hx hH=>?_) ?_;rotate_left
          ·go_simp;first | done | rfl | exact (Bool.not_not _).symm
          simp only [Act.put,slA,slB,slC]
          refine Rob.y (v:=?_) rfl rfl (fun w1 hx hH=>?_) ?_;rotate_left
          ·go_simp;first | done | rfl | exact (Bool.not_not _).symm
          simp only [Act.put,slA,slB,slC]
    all_goals
     refine fin_nil (fun w3 hx3 _=>?_)
     have X3:=ext_trans (ext_alloc X2 _) hx3
     have G3:=keep_ext hx3 (hg_alloc G2)
     go_wp2_with fail
    all_goals try
     go_ret
     have hr:=HR.out
     rw [if_pos (by simp [badDisk, *])] at hr
     exact ⟨by rw [← hr];rfl,X3⟩
    all_goals
     have hr:=HR.out
     rw [if_neg (by simp [badDisk, *])] at hr
     exact ⟨⟨i + 1,by omega,by go_num,X3,Lib.hid hr,G3⟩,by simp [intOf];omega⟩
   ·obtain rfl : i = 6:=by omega
    rw [List.drop_eq_nil_of_le (by have:=HL.out;omega),diskScan] at HR
    have hr:=HR.out
    subst hr
    go_wp2
    go_ret
    exact ⟨rfl,hX⟩
 ·have hf : storeOkB s = false:=by
   rw [HQ.out];simp only [Bool.and_eq_false_iff,beq_eq_false_iff_ne]
   by_cases h1 : orderB s.flash = true
   ·exact .inl (.inr fun h2=>hok ⟨h1,h2⟩)
   ·exact .inl (.inl (by simpa using h1))
  have HF:=Lib.hid hf;clear hf HQ
  cases ho : orderB s.flash with
  | false =>
   have HO:=Lib.hid ho;clear ho hok
   go_enter Tryz.func51,Tryz.ntmps51
   go_wp2_with fail
   refine (specFindOrder_c _ s.flash _ (hF.ext (ext_alloc (ext_refl _) _)) hn).mono ?_;rintro e1 w1 ⟨rfl,hx⟩
   obtain ⟨hc,hf,hz,hX⟩:=after1 hx
   rw [HO.out]
   go_wp2_with fail
   go_ret
   exact ⟨by rw [HF.out];rfl,hX⟩
  | true =>
   have hl : ¬ s.disk.length = 6:=fun h=>hok ⟨ho,h⟩
   have hne : (((s.disk.length : Nat) : Int) != 6) = true:=by simp;omega
   have HO:=Lib.hid ho;clear ho hok hl
   go_enter Tryz.func51,Tryz.ntmps51
   go_wp2_with fail
   refine (specFindOrder_c _ s.flash _ (hF.ext (ext_alloc (ext_refl _) _)) hn).mono ?_;rintro e1 w1 ⟨rfl,hx⟩
   obtain ⟨hc,hf,hz,hX⟩:=after1 hx
   rw [HO.out]
   go_wp2_with fail
   go_ret
   exact ⟨by rw [HF.out];rfl,hX⟩
end Go.Bu
namespace Go.Bu
open Go Go.RowKit Go.Plan Go.Proofs
abbrev SRow (base : Nat) (w : World) (v : Value) (xs : List Step) : Prop:=w.ownsRow base 142 8 v xs.length (xs.flatMap stepC)
theorem SRow.nil (base : Nat) (w : World) : SRow base w (.slice none 0 0) []:=⟨rfl,.inl ⟨rfl,rfl⟩⟩
theorem SRow.empty {base : Nat} {w : World} {B : Nat} (h : w.heap[B]? = some (.cells #[] 142 (0,0))) (hb : base ≤ B) : SRow base w (.slice (some ⟨B,0,none⟩) 0 0) []:=⟨rfl,.inr ⟨B,0,#[],rfl,hb,h,Nat.le_refl _,by simp,rfl,rfl⟩⟩
theorem SRow.one {base : Nat} {w : World} {B : Nat} {y : Step} (h : w.heap[B]? = some (.cells (stepC y).toArray 142 (0,0))) (hb : base ≤ B) : SRow base w (.slice (some ⟨B,0,none⟩) 1 1) [y]:=
 ⟨rfl,.inr ⟨B,1,_,rfl,hb,h,Nat.le_refl _,by simp [maxLen],rfl,rfl⟩⟩
theorem SRow.ext {base : Nat} {w w' : World} {v : Value} {xs : List Step} (h : SRow base w v xs) (hx : Ext w w') : SRow base w' v xs:=ownsRow_ext h hx
theorem SRow.form {base : Nat} {w : World} {v : Value} {xs : List Step} (h : SRow base w v xs) : ∃ a cap,v = .slice a xs.length cap:=by
 obtain ⟨_,h2⟩:=h
 rcases h2 with ⟨rfl,h0⟩ | ⟨g,cap,cur,rfl,_⟩
 ·exact ⟨none,0,by rw [h0]⟩
 ·exact ⟨_,cap,rfl⟩
theorem SRow.steps {base : Nat} {w : World} {v : Value} {xs : List Step} (h : SRow base w v xs) : Steps' (Old w) w v xs:=by
 rcases h.2 with ⟨rfl,h0⟩ | ⟨g,cap,cur,rfl,_,hh,_,_,_,ht⟩
 ·have : xs = []:=List.length_eq_zero_iff.1 h0
  subst this
  exact ⟨none,0,rfl,fun i x hx=>by simp at hx⟩
 ·refine ⟨_,cap,rfl,fun i x hx=>⟨g,0,stepC x,rfl,heap_lt hh,rfl,fun j u hu=>?_⟩⟩
  have:=flat_get (enc:=stepC) (n:=8) (fun _=>rfl) xs i x j u hx hu
  rw [← ht] at this
  have hlt:=(List.getElem?_eq_some_iff.1 this).1
  rw [List.length_take] at hlt
  rw [List.getElem?_take_of_lt (by omega)] at this
  rw [cell_block hh,Nat.zero_add]
  simpa using this
theorem keep_grown {w w' : World} {b base size m : Nat} {c : Array Value} {T e : TypeId} {fr : Nat × Nat} {u : Value} {ys : List Value} (h : w.heap[b]? = some (.cells c T fr)) (hT : T ≠ e) (hu : w.ownsRow base e size u m ys) (hg : w.grownBy w' u.ownBlock) : w'.heap[b]? = some (.cells c T fr):=by
 rw [hg.block b (heap_lt h) ?_];exact h
 intro hB
 rcases hu.2 with ⟨rfl,_⟩ | ⟨g,cap,cur,rfl,_,hh,_⟩
 ·simp [Value.ownBlock] at hB
 ·simp [Value.ownBlock] at hB
  subst hB
  rw [hh] at h
  simp at h
  exact hT h.2.1.symm
theorem wpList_appStep {w : World} {ops : Array Oper} {rest : List Oper} {o : Oper} {a : Act} {Q : Exit → Act → World → Prop} (hgd : o.guard = none) (s x : Operand)
  (ho : o.op = .call { callee:=.builtin .append,args:=#[s,x],argTypes:=#[119,119] }) {base : Nat} {v : Value} {xs : List Step} (hs : a.eval s = v) (hown : SRow base w v xs)
  {B : Nat} {y : Step} (hx : a.eval x = .slice (some ⟨B,0,none⟩) 1 1) (hB : w.heap[B]? = some (.cells (stepC y).toArray 142 (0,0))) (hlen : xs.length ≤ 1000000) (hbase : base ≤ w.heap.size)
  (h : ∀ v' w',SRow base w' v' (xs ++ [y]) → w.grownBy w' v.ownBlock → wpList Tryz.prog ops Q rest (a.put o.dst v') w') : wpList Tryz.prog ops Q (o :: rest) a w:=by
 refine wpList_app hgd s x 119 ho base 142 8 64 Tryz.underlying119 (by kernel_rfl) (by omega) v xs.length (xs.flatMap stepC) hs hown ⟨B,0,none⟩ 1 1 (stepC y) hx rfl (fun j u hu=>?_) (by simp [Value.oneCell']) (by simp [maxLen];omega) (by omega) hbase (fun v' w' h1 h2=>h v' w' ?_ h2)
 ·rw [Addr.add_mid,cell_block hB,Nat.zero_add];simpa using hu
 ·show w'.ownsRow _ _ _ _ _ _
  rw [List.length_append,List.flatMap_append];simpa using h1
theorem wpList_appSteps {w : World} {ops : Array Oper} {rest : List Oper} {o : Oper} {a : Act} {Q : Exit → Act → World → Prop} (hgd : o.guard = none) (s x : Operand)
  (ho : o.op = .call { callee:=.builtin .append,args:=#[s,x],argTypes:=#[119,119] }) {base base2 : Nat} {v u : Value} {xs ys : List Step} (hs : a.eval s = v) (hown : SRow base w v xs)
  (hx : a.eval x = u) (hu : SRow base2 w u ys) (hne : ys ≠ []) (hlen : xs.length + ys.length ≤ 1000000) (hbase : base ≤ w.heap.size)
  (h : ∀ v' w',SRow base w' v' (xs ++ ys) → w.grownBy w' v.ownBlock → wpList Tryz.prog ops Q rest (a.put o.dst v') w') : wpList Tryz.prog ops Q (o :: rest) a w:=by
 have hu2:=hu
 rcases hu.2 with ⟨rfl,h0⟩ | ⟨g,cap,cur,rfl,_,hh,_,_,_,ht⟩
 ·exact absurd (List.length_eq_zero_iff.1 h0) hne
 refine wpList_app hgd s x 119 ho base 142 8 64 Tryz.underlying119 (by kernel_rfl) (by omega) v xs.length (xs.flatMap stepC) hs hown ⟨g,0,none⟩ ys.length cap (ys.flatMap stepC) hx hu2.1 (hu2.cells rfl) (fun c hc=>?_) (by simp [maxLen];omega) (by omega) hbase (fun v' w' h1 h2=>h v' w' ?_ h2)
 ·obtain ⟨y,_,hy⟩:=List.mem_flatMap.1 hc
  simp at hy
  rcases hy with rfl | rfl | rfl | rfl | rfl | rfl | rfl | rfl <;> rfl
 ·show w'.ownsRow _ _ _ _ _ _
  rw [List.length_append,List.flatMap_append];exact h1
def diskStepOf (p : Page) : Step:=⟨1,p.r.addr,p.r.val,0,rec0⟩
def roomOne (f : List Block) (p : Page) : List Step:=if liveP f p = true ∧ p.r.kind = 1 then [diskStepOf p] else []
def roomSteps (f : List Block) (ps : List Page) : List Step:=ps.flatMap (roomOne f)
theorem roomSteps_drop (f : List Block) (ps : List Page) (k : Nat) (h : k < ps.length) : roomSteps f (ps.drop k) = roomOne f ps[k] ++ roomSteps f (ps.drop (k + 1)):=by
 rw [List.drop_eq_getElem_cons h];rfl
def blockAt (f : List Block) (i : Nat) : Block:=(f[i]?).getD ⟨[],0⟩
def room (f : List Block) : List Step × Int × Bool:=
 if (openB f).2 then ([],(openB f).1,true) else (roomSteps f (blockAt f (old f)).pages ++ [⟨2,0,0,(old f : Int),rec0⟩],(old f : Int),decide ((blockAt f (old f)).worn < 200))
def writeSteps (f : List Block) (kind addr val : Int) : List Step:=
 if (room f).2.2 && recOkB ⟨kind,next f,addr,val⟩ then (room f).1 ++ [⟨3,0,0,(room f).2.1,⟨kind,next f,addr,val⟩⟩] else []
theorem oldScan_lt (f : List Block) : ∀ (rest : List Block) (i out : Nat),out < f.length → i + rest.length ≤ f.length → oldScan f i out rest < f.length
 | [],_,out,h,_=>h
 | b :: rest,i,out,h,hl=>by
  simp only [List.length_cons] at hl
  simp only [oldScan]
  refine oldScan_lt f rest _ _ ?_ (by omega)
  split <;> omega
theorem old_lt {f : List Block} (h : 0 < f.length) : old f < f.length:=oldScan_lt f _ 1 0 h (by simp;omega)
set_option maxRecDepth 20000 in
set_option maxHeartbeats 2000000 in
theorem l12Room_c (fv dv : Value) (s : Store) (w : World) (h : StoreV w fv dv s) (hok : flashOkB s.flash = true) :
  Calls Tryz.prog 110 #[.agg #[fv,dv]] w (RetP w fun v w'=>∃ sv,v = .tuple #[sv,.int .i64 (room s.flash).2.1,.bool (room s.flash).2.2] ∧ SRow w.heap.size w' sv (room s.flash).1 ∧ (room s.flash).1.length ≤ 5):=by
 have hn : s.flash.length ≤ 1048576:=by have:=flashOk_len hok;omega
 have HP:=Lib.hid (pages_short hok)
 obtain ⟨hF,hD⟩:=h
 obtain ⟨fa,fc,rfl⟩:=hF.form
 obtain ⟨da,dc,rfl⟩:=hD.form
 have hol : old s.flash < s.flash.length:=old_lt (by have:=flashOk_len hok;omega)
 have hb4 : s.flash[old s.flash].pages.length = 4:=(flashOk_block hok (List.getElem_mem _)).1
 have hR : room s.flash = if (openB s.flash).2 then ([],(openB s.flash).1,true) else (roomSteps s.flash s.flash[old s.flash].pages ++ [⟨2,0,0,(old s.flash : Int),rec0⟩],(old s.flash : Int),decide (s.flash[old s.flash].worn < 200)):=by
  unfold room blockAt;rw [List.getElem?_eq_getElem hol];rfl
 generalize room s.flash = R at *
 have HR:=Lib.hid hR;clear hR
 cases ho : (openB s.flash).2 with
 | true =>
  have HO:=Lib.hid ho;clear ho
  go_enter Tryz.func110,Tryz.ntmps110
  go_wp2_with fail
  refine (l3Open_c _ s.flash _ (hF.ext (ext_alloc (ext_alloc (ext_refl _) _) _)) hn HP.out).mono ?_;rintro e1 w1 ⟨rfl,hx⟩
  rw [HO.out]
  obtain ⟨hc,hf,hz,hz1,hX⟩:=after2 hx
  have G:=keep_ext hx (hg_new (b:=w.heap.size + 1) (by simp))
  go_wp2_with fail
  refine bodyPost_ret (v:=.tuple #[.slice (some ⟨w.heap.size + 1,0,none⟩) 0 0,.int .i64 (openB s.flash).1,.bool true]) (by simp [results,Tryz.results110,go_sem]) rfl ⟨_,rfl,hX,.slice (some ⟨w.heap.size + 1,0,none⟩) 0 0,?_,?_,?_⟩
  ·rw [HR.out,HO.out];rfl
  ·rw [HR.out,HO.out];exact SRow.empty G (by omega)
  ·rw [HR.out,HO.out];simp
 | false =>
  have HO:=Lib.hid ho;clear ho
  have hR2:=HR.out
  rw [HO.out] at hR2
  simp only [Bool.false_eq_true,if_false] at hR2
  subst hR2
  clear HR
  generalize hbo : old s.flash = bo at *
  obtain ⟨b,o,pv,rfl,hb,hpp,h0,h1⟩:=hF.at2 hol
  obtain ⟨pa,pcap,rfl⟩:=hpp.form
  have hb' : b < w.heap.size:=hb
  have HBO:=Lib.hid hbo;clear hbo
  generalize hrs : roomSteps s.flash s.flash[bo].pages = R at *
  have HR : Hid (([] : List Step) ++ roomSteps s.flash (s.flash[bo].pages.drop 0) = R):=Lib.hid hrs
  clear hrs
  go_enter Tryz.func110,Tryz.ntmps110
  go_wp2_with fail
  refine (l3Open_c _ s.flash _ (hF.ext (ext_alloc (ext_alloc (ext_refl _) _) _)) hn HP.out).mono ?_;rintro e1 w1 ⟨rfl,hx⟩
  rw [HO.out]
  obtain ⟨hc,hf,hz,hz1,hX⟩:=after2 hx
  have G:=keep_ext hx (hg_new (b:=w.heap.size + 1) (by simp))
  have G0:=keep_ext hx (hg_alloc (hg_new (b:=w.heap.size) rfl))
  go_wp2_with fail
  refine (l3Old_c _ s.flash _ (hF.ext hX) hn HP.out).mono ?_;rintro e2 w2 ⟨rfl,hx2⟩
  rw [HBO.out]
  have X2:=ext_trans hX hx2
  replace G:=keep_ext hx2 G
  replace G0:=keep_ext hx2 G0
  clear hc hf hX hx2 hz hz1
  go_wp2_with fail
  go_loopw [5,9] (fun v y wr=>∃ (k : Nat) (acc : List Step),k ≤ 4 ∧ y = .int .i64 k ∧ SRow w.heap.size wr v acc ∧ acc.length ≤ k ∧ Ext w wr ∧ Hid (acc ++ roomSteps s.flash (s.flash[bo].pages.drop k) = R) ∧
   wr.heap[w.heap.size]? = some (.cells #[.slice (some ⟨b,o,none⟩) s.flash.length fc,.slice da s.disk.length dc] 42 (0,0))) (fun _ y _=>4 - (intOf y).toNat)
  case atStart=>exact ⟨0,[],by omega,rfl,SRow.empty G (by omega),by simp,X2,HR,G0⟩
  case round =>
   clear G G0 X2 HR
   obtain ⟨k,acc,hk,rfl,hS,hal,hX,HR,G0⟩:=hrel
   obtain ⟨sa,scap,rfl⟩:=hS.form
   obtain ⟨g0,gf⟩:=cellsK G0
   have hs0:=heap_lt G0
   obtain ⟨hc,hf⟩:=bcell hX
   by_cases hlt : k < 4
   ·have hkl : k < s.flash[bo].pages.length:=by omega
    obtain ⟨b2,o2,rfl,hb2,e0,e1,e2,e3,e4⟩:=hpp.at5 hkl
    have hb2' : b2 < w.heap.size:=hb2
    rw [roomSteps_drop _ _ _ hkl,← List.append_assoc] at HR
    go_wp2_with fail
    refine (l3Live_c _ s.flash s.flash[bo].pages[k] _ (hF.ext (ext_alloc hX _)) hn HP.out).mono ?_;rintro e1 w1 ⟨rfl,hx⟩
    obtain ⟨hc1,hf1,hz1,hX1⟩:=after1 hx
    have X1:=ext_trans hX hX1
    have hS1:=hS.ext hX1
    have G1:=keep_ext hX1 G0
    have HS1:=Lib.hid hS1;clear hS1
    generalize hlv : liveP s.flash s.flash[bo].pages[k] = lv at *
    have HLV:=Lib.hid hlv;clear hlv
    have hws:=X1.size
    go_wp2_with (refine wpList_appStep rfl _ _ rfl rfl (HS1.out.ext (ext_alloc (ext_refl _) _)) (y:=diskStepOf s.flash[bo].pages[k]) rfl (hg_new rfl) (by omega) (by simp;omega) (fun v' w' hS' hg=>?_))
    ·refine ⟨⟨k + 1,acc ++ [diskStepOf s.flash[bo].pages[k]],by omega,by go_num,hS',by simp;omega,ext_grown (ext_alloc X1 _) (HS1.out.ext (ext_alloc (ext_refl _) _)) hg,Lib.hid ?_,keep_grown (hg_alloc G1) (by decide) (HS1.out.ext (ext_alloc (ext_refl _) _)) hg⟩,by simp [intOf];omega⟩
     have hr:=HR.out
     try simp only [beq_iff_eq,Bool.not_eq_true,beq_eq_false_iff_ne,ne_eq,bne_iff_ne,bne_eq_false_iff_eq,decide_eq_true_eq,decide_eq_false_iff_not] at *
     rw [roomOne,if_pos ⟨by rw [HLV.out];assumption,by assumption⟩] at hr
     exact hr
    all_goals
     refine ⟨⟨k + 1,acc,by omega,by go_num,HS1.out,by omega,X1,Lib.hid ?_,G1⟩,by simp [intOf];omega⟩
     have hr:=HR.out
     try simp only [beq_iff_eq,Bool.not_eq_true,beq_eq_false_iff_ne,ne_eq,bne_iff_ne,bne_eq_false_iff_eq,decide_eq_true_eq,decide_eq_false_iff_not] at *
     rw [roomOne,if_neg (by rw [HLV.out];simp [*]),List.append_nil] at hr
     exact hr
   ·obtain rfl : k = 4:=by omega
    rw [List.drop_eq_nil_of_le (by omega)] at HR
    have hr : acc = R:=by have:=HR.out;simpa [roomSteps] using this
    subst hr
    clear HR
    go_wp2_with fail
    refine wp_region_sa hX hS [3,4] [0,1,2,5,6,7,8,9,10,11,12,3,4,13,14,15] [] [] (by kernel_rfl) (by kernel_rfl) ?late ?_
    case late=>exact fun f hf=>absurd hf List.not_mem_nil
    iterate 5
     refine Rob.y (v:=?_) rfl rfl (fun w1 hx hH=>?_) ?_;rotate_left
     ·go_simp;first | done | rfl | exact (Bool.not_not _).symm
     simp only [Act.put,slA,slB,slC]
    refine Rob.y (v:=?_) rfl rfl (fun w1 hx hH=>?_) ?_;rotate_left
    ·(obtain ⟨k0,kf⟩:=cellsK (hx.keep hS (by decide) G0);obtain ⟨hcx,hfx⟩:=bcell hx.ext);go_simp;first | done | rfl
    simp only [Act.put,slA,slB,slC]
    refine Rob.y (v:=?_) rfl rfl (fun w1 hx hH=>?_) ?_;rotate_left
    ·go_simp;first | done | rfl | exact (Bool.not_not _).symm
    simp only [Act.put,slA,slB,slC]
    refine Rob.y (v:=?_) rfl rfl (fun w1 hx hH=>?_) ?_;rotate_left
    ·(obtain ⟨k0,kf⟩:=cellsK (hx.keep hS (by decide) G0);obtain ⟨hcx,hfx⟩:=bcell hx.ext);go_simp;first | done | rfl
    simp only [Act.put,slA,slB,slC]
    refine Rob.y (v:=?_) rfl rfl (fun w1 hx hH=>?_) ?_;rotate_left
    ·go_simp;first | done | rfl | exact (Bool.not_not _).symm
    simp only [Act.put,slA,slB,slC]
    refine Rob.y (v:=?_) rfl rfl (fun w1 hx hH=>?_) ?_;rotate_left
    ·(obtain ⟨k0,kf⟩:=cellsK (hx.keep hS (by decide) G0);obtain ⟨hcx,hfx⟩:=bcell hx.ext);go_simp;first | done | rfl
    simp only [Act.put,slA,slB,slC]
    refine Rob.y (v:=?_) rfl rfl (fun w1 hx hH=>?_) ?_;rotate_left
    ·go_simp;first | done | rfl | exact (Bool.not_not _).symm
    simp only [Act.put,slA,slB,slC]
    refine Rob.al (.cells (stepC ⟨2,0,0,(bo : Int),rec0⟩).toArray 142 (0,0)) (fun lo=>.slice (some ⟨lo,0,none⟩) 1 1) rfl rfl rfl (fun _ _ h hx=>h.stab hx) (fun w1=>by go_simp;rfl) (fun lo3 hi3 hlo3 hhi3=>?_)
    simp only [Act.put,slA,slB,slC]
    refine Rob.app 64 (stepC ⟨2,0,0,(bo : Int),rec0⟩) 1 rfl rfl rfl rfl rfl rfl Tryz.underlying119 (by kernel_rfl) (by omega) rfl rfl (by simp [Value.oneCell']) (by simp [maxLen];omega) (by omega) hX.size (by omega) rfl hS hlo3 rfl (fun lo4 hi4 v4 hlo4=>?_)
    simp only [Act.put,slA,slB,slC]
    iterate 3
     refine Rob.y (v:=?_) rfl rfl (fun w1 hx hH=>?_) ?_;rotate_left
     ·go_simp;first | done | rfl | exact (Bool.not_not _).symm
     simp only [Act.put,slA,slB,slC]
    refine fin_nil (fun w2 hx2 _=>?_)
    obtain ⟨⟨hSA,-⟩,hO⟩:=hx2
    have hO2 : SRow w.heap.size w2 v4 (acc ++ [⟨2,0,0,(bo : Int),rec0⟩]):=by
     show w2.ownsRow _ _ _ _ _ _
     rw [List.length_append,List.flatMap_append];simpa using hO
    clear hO
    have HO2:=Lib.hid hO2;clear hO2
    go_wp2_with fail
    refine bodyPost_ret (v:=.tuple #[v4,.int .i64 bo,.bool (decide (s.flash[bo].worn < 200))]) (by simp [results,Tryz.results110,go_sem]) rfl ⟨_,rfl,hSA.ext,v4,rfl,HO2.out,by simp;omega⟩
theorem foldl_inv {α σ : Type} (g : σ → α → σ) (I : σ → Prop) : ∀ (xs : List α) (s : σ),I s → (∀ s x,x ∈ xs → I s → I (g s x)) → I (xs.foldl g s)
 | [],s,h,_=>h
 | x :: xs,s,h,hs=>foldl_inv g I xs _ (hs s x (by simp) h) fun s y hy=>hs s y (by simp [hy])
theorem most_bd {ps : List Page} (h : ∀ p ∈ ps,pageOkB p = true) : 0 ≤ most ps ∧ most ps ≤ 600:=
 foldl_inv mostStep (fun n=>0 ≤ n ∧ n ≤ 600) ps 0 (by omega) fun s p hp hs=>by have:=pageOk_seq (h p hp);unfold mostStep;split <;> omega
theorem maxSeq_bd {f : List Block} (h : flashOkB f = true) : 0 ≤ maxSeq f ∧ maxSeq f ≤ 600:=
 foldl_inv nextStep (fun n=>0 ≤ n ∧ n ≤ 600) f 0 (by omega) fun s b hb hs=>by have:=most_bd (flashOk_block h hb).2.2.2;unfold nextStep;split <;> omega
def RetS (w : World) (xs : List Step) : Ending → World → Prop:=RetP w fun v w'=>SRow w.heap.size w' v xs ∧ xs.length ≤ 7
def SΦ (base : Nat) (xs : List Step) (v : Value) (w' : World) : Prop:=(∃ b,base ≤ b ∧ SRow b w' v xs) ∧ xs.length ≤ 7
theorem SΦ.ext {base : Nat} {xs : List Step} {v : Value} {w w' : World} (h : SΦ base xs v w) (hx : Ext w w') : SΦ base xs v w':=⟨h.1.imp fun b hb=>⟨hb.1,hb.2.ext hx⟩,h.2⟩
theorem RetS.weak {base : Nat} {xs : List Step} {w1 w' : World} {e : Ending} (h : RetS w1 xs e w') (hb : base ≤ w1.heap.size) : RetP w1 (SΦ base xs) e w':=by
 obtain ⟨v,he,hx,hS,hl⟩:=h;exact ⟨v,he,hx,⟨_,hb,hS⟩,hl⟩
theorem SRow.base {b b' : Nat} {w : World} {v : Value} {xs : List Step} (h : SRow b w v xs) (hb : b' ≤ b) : SRow b' w v xs:=
 ⟨h.1,h.2.imp id fun ⟨g,cap,cur,hv,hg,hr⟩=>⟨g,cap,cur,hv,Nat.le_trans hb hg,hr⟩⟩
theorem room_len {f : List Block} (h : (room f).1.length ≤ 5) (kind addr val : Int) : (writeSteps f kind addr val).length ≤ 6:=by
 unfold writeSteps;split
 ·simp;omega
 ·simp
theorem roomSteps_len (f : List Block) : ∀ ps : List Page,(roomSteps f ps).length ≤ ps.length
 | []=>by simp [roomSteps]
 | p :: ps=>by
  have:=roomSteps_len f ps
  have h1 : (roomOne f p).length ≤ 1:=by unfold roomOne;split <;> simp
  simp only [roomSteps,List.flatMap_cons,List.length_append,List.length_cons] at *
  omega
theorem room_le {f : List Block} (h : flashOkB f = true) : (room f).1.length ≤ 5:=by
 unfold room
 split
 ·simp
 ·have h4:=flashOk_len h
  have hl:=old_lt (f:=f) (by omega)
  have hb:=(flashOk_block h (List.getElem_mem hl)).1
  have:=roomSteps_len f (blockAt f (old f)).pages
  unfold blockAt at this ⊢
  rw [List.getElem?_eq_getElem hl] at this ⊢
  simp at this ⊢
  omega
theorem write_le {f : List Block} (h : flashOkB f = true) (kind addr val : Int) : (writeSteps f kind addr val).length ≤ 6:=room_len (room_le h) kind addr val
set_option maxHeartbeats 2000000 in
theorem l12Write_c (fv dv : Value) (s : Store) (kind addr val : Int) (w : World) (h : StoreV w fv dv s) (hok : flashOkB s.flash = true) :
  Calls Tryz.prog 89 #[.agg #[fv,dv],.int .i64 kind,.int .i64 addr,.int .i64 val] w (RetS w (writeSteps s.flash kind addr val)):=by
 have hn : s.flash.length ≤ 1048576:=by have:=flashOk_len hok;omega
 have HP:=Lib.hid (pages_short hok)
 have HO:=Lib.hid hok
 have hms:=maxSeq_bd hok
 have hsv:=h
 obtain ⟨hF,hD⟩:=h
 obtain ⟨fa,fc,rfl⟩:=hF.form
 obtain ⟨da,dc,rfl⟩:=hD.form
 have HW : Hid (writeSteps s.flash kind addr val = if (room s.flash).2.2 && recOkB ⟨kind,next s.flash,addr,val⟩ then (room s.flash).1 ++ [⟨3,0,0,(room s.flash).2.1,⟨kind,next s.flash,addr,val⟩⟩] else []):=Lib.hid rfl
 have HL:=Lib.hid (fun h=>room_len (f:=s.flash) h kind addr val)
 generalize writeSteps s.flash kind addr val = WS at *
 clear hok
 go_enter Tryz.func89,Tryz.ntmps89
 go_wp2_with fail
 refine (l3Next_c _ s.flash _ (hF.ext (ext_alloc (ext_refl _) _)) hn HP.out (by omega)).mono ?_;rintro e1 w1 ⟨rfl,hx⟩
 obtain ⟨hc,hf,hz,hX⟩:=after1 hx
 have G0:=keep_ext hx (hg_new (b:=w.heap.size) rfl)
 generalize next s.flash = nx at *
 go_wp2_with fail
 refine (l12Room_c _ _ s _ (hsv.ext (ext_alloc hX _)) HO.out).mono ?_;rintro e2 w2 ⟨v2,rfl,hx2,sv,rfl,hS,hsl⟩
 generalize room s.flash = R at *
 obtain ⟨rs,rb,ro⟩:=R
 obtain ⟨sa,scap,rfl⟩:=hS.form
 have X2 : Ext w w2:=ext_trans (ext_alloc hX _) hx2
 replace G0:=keep_ext hx2 (hg_alloc G0)
 have G9:=keep_ext hx2 (hg_new (b:=w1.heap.size) rfl)
 have hL:=HL.out hsl
 dsimp only at *
 have HS:=Lib.hid (hS.base (b':=w.heap.size) (by have:=hX.size;simp;omega))
 clear hS hc hf
 obtain ⟨g0,gf0⟩:=cellsK G0
 obtain ⟨g9,gf9⟩:=cellsK G9
 have l0:=heap_lt G0
 have l9:=heap_lt G9
 generalize hrok : recOkB ⟨kind,nx,addr,val⟩ = rok at *
 have HRO:=Lib.hid hrok;clear hrok
 go_wp2_with (first
  | (go_at_call 111;(with_reducible refine (specRecOk_c ⟨kind,nx,addr,val⟩ _).mono ?_);rintro e3 w3 ⟨rfl,hx3⟩;rw [HRO.out];have X3:=ext_trans X2 hx3;replace HS:=Lib.hid (HS.out.ext hx3);replace G0:=keep_ext hx3 G0;replace G9:=keep_ext hx3 G9;clear g0 gf0 g9 gf9;obtain ⟨g0,gf0⟩:=cellsK G0;obtain ⟨g9,gf9⟩:=cellsK G9)
  | (refine wpList_appStep rfl _ _ rfl rfl (HS.out.ext (ext_alloc (ext_refl _) _)) (y:=⟨3,0,0,rb,⟨kind,nx,addr,val⟩⟩) rfl (hg_new rfl) (by omega) (by have:=X3.size;simp;omega) (fun v' w' hS' hg=>?_)))
 ·have hw : WS = []:=by
   have hk : rok = false:=by simpa using ‹(!rok) = true›
   rw [HW.out,if_neg (by simp [hk])]
  go_ret
  subst hw
  exact ⟨_,rfl,ext_alloc X3 _,SRow.empty (hg_new rfl) (by have:=X3.size;omega),by simp⟩
 ·have hk : rok = true:=by simpa using ‹(!rok) = false›
  have hw : WS = rs ++ [⟨3,0,0,rb,⟨kind,nx,addr,val⟩⟩]:=by rw [HW.out,if_pos (by simp [*])]
  go_ret
  exact ⟨_,rfl,ext_grown (ext_alloc X3 _) (HS.out.ext (ext_alloc (ext_refl _) _)) hg,by rw [hw];exact hS',by omega⟩
 ·have hw : WS = []:=by rw [HW.out,if_neg (by simp [*])]
  go_ret
  subst hw
  exact ⟨_,rfl,ext_alloc X2 _,SRow.empty (hg_new rfl) (by have:=X2.size;omega),by simp⟩
def flushSteps (s : Store) (n : Nat) : List Step:=
 if dirtyB s ((n : Int) + 1) then (if writeSteps s.flash 2 ((n : Int) + 1) (readN s n) = [] then [] else ⟨1,(n : Int) + 1,readN s n,0,rec0⟩ :: writeSteps s.flash 2 ((n : Int) + 1) (readN s n)) else []
def addrStep (g : Nat → List Step) (addr : Int) : List Step:=if inB addr 1 6 then g (addr - 1).toNat else []
def fillSteps (s : Store) (n : Nat) : List Step:=if 0 < (last s.flash ((n : Int) + 1)).seq then [] else writeSteps s.flash 2 ((n : Int) + 1) (s.disk.getD n 0)
def putSteps (s : Store) (addr val : Int) : List Step:=writeSteps s.flash 1 addr val
def playSteps (s : Store) (e : Event) : List Step:=
 if e.kind = 1 then putSteps s e.a e.b else if e.kind = 2 then addrStep (flushSteps s) e.a else if e.kind = 3 then addrStep (fillSteps s) e.a else []
structure StoreP (s : Store) : Prop where
 flash : flashOkB s.flash = true
 disk : s.disk.length = 6
theorem StoreP.short {s : Store} (h : StoreP s) : s.flash.length ≤ 1048576:=by have:=flashOk_len h.flash;omega
set_option maxHeartbeats 2000000 in
theorem l12Flush_c (fv dv : Value) (s : Store) (addr : Int) (w : World) (h : StoreV w fv dv s) (hok : StoreP s) :
  Calls Tryz.prog 87 #[.agg #[fv,dv],.int .i64 addr] w (RetS w (addrStep (flushSteps s) addr)):=by
 have hn:=hok.short
 have HP:=Lib.hid (pages_short hok.flash)
 have HO:=Lib.hid hok.flash
 have hd6:=Lib.hid hok.disk
 have hsv:=h
 obtain ⟨hF,hD⟩:=h
 obtain ⟨fa,fc,rfl⟩:=hF.form
 obtain ⟨da,dc,rfl⟩:=hD.form
 clear hok
 cases hin : inB addr 1 6 with
 | false =>
  have hq : addrStep (flushSteps s) addr = []:=by unfold addrStep;rw [hin];rfl
  rw [hq]
  have HI:=Lib.hid hin;clear hin hq
  go_enter Tryz.func87,Tryz.ntmps87
  go_wp2_with (go_at_call 73;refine (l6In_c _ _ _ _).mono ?_;rintro e1 w1 ⟨rfl,rfl⟩;rw [HI.out])
  go_ret
  exact ⟨_,rfl,by go_grown,SRow.empty (hg_new (by simp)) (by simp),by simp⟩
 | true =>
  obtain ⟨n,rfl,hn6⟩ : ∃ n : Nat,addr = (n : Int) + 1 ∧ n < 6:=⟨(addr - 1).toNat,by have:=inB_iff.1 hin;omega,by have:=inB_iff.1 hin;omega⟩
  have hq : addrStep (flushSteps s) ((n : Int) + 1) = flushSteps s n:=by unfold addrStep;rw [hin];simp
  rw [hq]
  have HI:=Lib.hid hin;clear hin hq
  have hq : flushSteps s n = if dirtyB s ((n : Int) + 1) then (if writeSteps s.flash 2 ((n : Int) + 1) (readN s n) = [] then [] else ⟨1,(n : Int) + 1,readN s n,0,rec0⟩ :: writeSteps s.flash 2 ((n : Int) + 1) (readN s n)) else []:=rfl
  generalize flushSteps s n = FS at *
  have HQ:=Lib.hid hq;clear hq
  go_enter Tryz.func87,Tryz.ntmps87
  go_wp2_with (go_at_call 73;refine (l6In_c _ _ _ _).mono ?_;rintro e1 w1 ⟨rfl,rfl⟩;rw [HI.out])
  refine (l11Dirty_c _ _ s _ _ (hsv.ext (ext_alloc (ext_refl _) _)) hn HP.out).mono ?_;rintro e1 w1 ⟨rfl,hx1⟩
  obtain ⟨hc1,hf1,hz1,X1⟩:=after1 hx1
  generalize hdb : dirtyB s ((n : Int) + 1) = db at *
  have HD:=Lib.hid hdb;clear hdb
  cases db with
  | false =>
   go_wp2_with fail
   go_ret
   have hq : FS = []:=by rw [HQ.out];rfl
   subst hq
   exact ⟨_,rfl,ext_alloc X1 _,SRow.empty (hg_new rfl) (by omega),by simp⟩
  | true =>
   have G1:=keep_ext hx1 (hg_new (b:=w.heap.size) rfl)
   go_wp2_with fail
   refine (l11Read_c _ _ s n _ (hsv.ext X1) hn HP.out (by have:=hd6.out;omega) (by have:=hd6.out;omega)).mono ?_;rintro e2 w2 ⟨rfl,hx2⟩
   have X2:=ext_trans X1 hx2
   have G2:=keep_ext hx2 G1
   have l2:=heap_lt G2
   obtain ⟨g2,gf2⟩:=cellsK G2
   clear hc1 hf1 G1
   generalize readN s n = rv at *
   go_wp2_with fail
   refine (l12Write_c _ _ s 2 _ rv _ (hsv.ext X2) HO.out).mono ?_;rintro e3 w3 ⟨sv,rfl,hx3,hS,hsl⟩
   have X3:=ext_trans X2 hx3
   have hw6:=write_le HO.out 2 ((n : Int) + 1) rv
   generalize writeSteps s.flash 2 ((n : Int) + 1) rv = WS at *
   obtain ⟨sa,scap,rfl⟩:=hS.form
   have HS:=Lib.hid (hS.base (b':=w.heap.size) X2.size)
   clear hS g2 gf2
   have hz3:=X3.size
   by_cases hw0 : WS = []
   ·subst hw0
    go_wp2_with fail
    go_ret
    have hq : FS = []:=by rw [HQ.out];rfl
    subst hq
    exact ⟨_,rfl,X3,HS.out,by simp⟩
   ·have hln : (((WS.length : Nat) : Int) == 0) = false:=by simp [hw0]
    have HW:=Lib.hid hw0;clear hw0
    go_wp2_with (refine wpList_appSteps rfl _ _ rfl (v:=.slice (some ⟨w3.heap.size,0,none⟩) 1 1) (xs:=[⟨1,(n : Int) + 1,rv,0,rec0⟩]) rfl (SRow.one (hg_new rfl) hz3) rfl (HS.out.ext (ext_alloc (ext_refl _) _)) HW.out (by simp;omega) (by simp;omega) (fun v' w' hS' hg=>?_))
    go_ret
    have hq : FS = ⟨1,(n : Int) + 1,rv,0,rec0⟩ :: WS:=by rw [HQ.out,if_pos trivial,if_neg HW.out]
    subst hq
    refine ⟨_,rfl,ext_grown (ext_alloc X3 _) (v:=.slice (some ⟨w3.heap.size,0,none⟩) 1 1) (SRow.one (y:=⟨1,(n : Int) + 1,rv,0,rec0⟩) (hg_new rfl) hz3) hg,hS',?_⟩
    simp;omega
set_option maxHeartbeats 2000000 in
theorem l12Fill_c (fv dv : Value) (s : Store) (addr : Int) (w : World) (h : StoreV w fv dv s) (hok : StoreP s) :
  Calls Tryz.prog 90 #[.agg #[fv,dv],.int .i64 addr] w (RetS w (addrStep (fillSteps s) addr)):=by
 have hn:=hok.short
 have HP:=Lib.hid (pages_short hok.flash)
 have HO:=Lib.hid hok.flash
 have hd6:=Lib.hid hok.disk
 have hsv:=h
 obtain ⟨hF,hD⟩:=h
 obtain ⟨fa,fc,rfl⟩:=hF.form
 obtain ⟨da,dc,rfl⟩:=hD.form
 clear hok
 cases hin : inB addr 1 6 with
 | false =>
  have hq : addrStep (fillSteps s) addr = []:=by unfold addrStep;rw [hin];rfl
  rw [hq]
  have HI:=Lib.hid hin;clear hin hq
  go_enter Tryz.func90,Tryz.ntmps90
  go_wp2_with (go_at_call 73;refine (l6In_c _ _ _ _).mono ?_;rintro e1 w1 ⟨rfl,rfl⟩;rw [HI.out])
  go_ret
  exact ⟨_,rfl,by go_grown,SRow.empty (hg_new (by simp)) (by simp),by simp⟩
 | true =>
  obtain ⟨n,rfl,hn6⟩ : ∃ n : Nat,addr = (n : Int) + 1 ∧ n < 6:=⟨(addr - 1).toNat,by have:=inB_iff.1 hin;omega,by have:=inB_iff.1 hin;omega⟩
  have hq : addrStep (fillSteps s) ((n : Int) + 1) = fillSteps s n:=by unfold addrStep;rw [hin];simp
  rw [hq]
  have HI:=Lib.hid hin;clear hin hq
  have hil : n < s.disk.length:=by have:=hd6.out;omega
  have hq : fillSteps s n = if 0 < (last s.flash ((n : Int) + 1)).seq then [] else writeSteps s.flash 2 ((n : Int) + 1) s.disk[n]:=by
   unfold fillSteps;rw [List.getD_eq_getElem?_getD,List.getElem?_eq_getElem hil];rfl
  obtain ⟨b,o,rfl,hb,e0⟩:=hD.at1 hil
  have hb' : b < w.heap.size:=hb
  generalize fillSteps s n = FS at *
  have HQ:=Lib.hid hq;clear hq
  go_enter Tryz.func90,Tryz.ntmps90
  go_wp2_with (go_at_call 73;refine (l6In_c _ _ _ _).mono ?_;rintro e1 w1 ⟨rfl,rfl⟩;rw [HI.out])
  refine (l3Last_c _ s.flash ((n : Int) + 1) _ (hF.ext (ext_alloc (ext_refl _) _)) hn HP.out).mono ?_;rintro e1 w1 ⟨rfl,hx1⟩
  obtain ⟨hc1,hf1,hz1,X1⟩:=after1 hx1
  have G1:=keep_ext hx1 (hg_new (b:=w.heap.size) rfl)
  generalize last s.flash ((n : Int) + 1) = r at *
  by_cases hr : 0 < r.seq
  ·go_wp2_with fail
   go_ret
   have hq : FS = []:=by rw [HQ.out,if_pos hr]
   subst hq
   exact ⟨_,rfl,by go_grown,SRow.empty (hg_new (by simp)) (by have:=X1.size;omega),by simp⟩
  ·have hrf : decide (0 < r.seq) = false:=by simpa using hr
   have hbw : b < w1.heap.size:=Nat.lt_trans hb' hz1
   have hwn : IntKind.i64.wrap (n : Int) = n:=IntWalk.i64_in _ (by omega)
   have hwn2 : (n : Int) < s.disk.length:=by omega
   have XA : ∀ {w' : World} {ob : Obj},Ext (w1.alloc ob) w' → Ext w w':=fun h=>ext_trans (ext_alloc X1 _) h
   go_wp2_with fail
   refine wp_region_ext [8] [0,1,2,3,4,5,6,7,8,9] [] [] (by kernel_rfl) (by kernel_rfl) ?late ?_
   case late=>exact fun f hf=>absurd hf List.not_mem_nil
   refine Rob.y (v:=?_) rfl rfl (fun w1 hx hH=>?_) ?_;rotate_left
   ·(obtain ⟨hcx,hfx⟩:=bcell hx);go_simp;first | done | rfl
   simp only [Act.put,slA,slB,slC]
   iterate 2
    refine Rob.y (v:=?_) rfl rfl (fun w1 hx hH=>?_) ?_;rotate_left
    ·go_simp;first | done | rfl | exact (Bool.not_not _).symm
    simp only [Act.put,slA,slB,slC]
   refine Rob.y (v:=?_) rfl rfl (fun w1 hx hH=>?_) ?_;rotate_left
   ·(obtain ⟨hcx,hfx⟩:=bcell hx);go_simp;first | done | rfl
   simp only [Act.put,slA,slB,slC]
   iterate 2
    refine Rob.y (v:=?_) rfl rfl (fun w1 hx hH=>?_) ?_;rotate_left
    ·go_simp;first | done | rfl | exact (Bool.not_not _).symm
    simp only [Act.put,slA,slB,slC]
   iterate 2
    refine Rob.y (v:=?_) rfl rfl (fun w1 hx hH=>?_) ?_;rotate_left
    ·(obtain ⟨hcx,hfx⟩:=bcell hx);go_simp;first | done | rfl
    simp only [Act.put,slA,slB,slC]
   refine Rob.c ((fun lo hi v w'=>SΦ w.heap.size (writeSteps s.flash 2 ((n : Int) + 1) s.disk[n]) v w')) rfl rfl rfl (fun _ _=>ext_trans) (fun _ _ _ _ _=>fun h hx=>h.ext hx) (fun w1 hx hH=>?_) (fun lo8 hi8 v8 hlo8 hhi8 hv8=>?_)
   ·unfold RunTo;go_simp;exact (((l12Write_c _ _ s 2 _ s.disk[n] _ (hsv.ext (XA hx)) HO.out).mono fun e w' h=>RetS.weak h (XA hx).size)).mono fun e w' h=>h.to
   simp only [Act.put,slA,slB,slC]
   refine Rob.y (v:=?_) rfl rfl (fun w1 hx hH=>?_) ?_;rotate_left
   ·go_simp;first | done | rfl | exact (Bool.not_not _).symm
   simp only [Act.put,slA,slB,slC]
   refine fin_nil (fun w2 hx2 _=>?_)
   obtain ⟨hE,⟨bb,hbb,hS⟩,hsl⟩:=hx2
   have HS:=Lib.hid (hS.base hbb);clear hS
   have X2:=XA hE
   go_wp2_with fail
   go_ret
   have hq : FS = writeSteps s.flash 2 ((n : Int) + 1) s.disk[n]:=by rw [HQ.out,if_neg (by omega)]
   subst hq
   exact ⟨_,rfl,X2,HS.out,hsl⟩
end Go.Bu
namespace Go.Bu
open Go Go.RowKit Go.Plan Go.Proofs
structure At where
 b : Nat
 o : Nat
 cap : Nat
 T : Nat
abbrev At.v (p : At) (n : Nat) : Value:=.slice (some ⟨p.b,p.o,none⟩) n (n + p.cap)
structure SC where
 F : At
 ps : List At
 D : At
def SC.fl (c : SC) : List Nat:=c.F.b :: c.ps.map (·.b)
def SC.L (c : SC) : List Nat:=c.fl ++ [c.D.b]
abbrev SC.fv (c : SC) (s : Store) : Value:=c.F.v s.flash.length
abbrev SC.dv (c : SC) (s : Store) : Value:=c.D.v s.disk.length
def rowOf (x : Block) (p : At) : Value × Int:=(p.v x.pages.length,x.worn)
def rowsOf (f : List Block) (ps : List At) : List (Value × Int):=List.zipWith rowOf f ps
structure FlashAt (c : SC) (w : World) (f : List Block) : Prop where
 row : OwnAt 2 rowC c.F.T w c.F.b c.F.o (rowsOf f c.ps)
 len : c.ps.length = f.length
 pages : ∀ (i : Nat) x p,f[i]? = some x → c.ps[i]? = some p → OwnAt 5 pageC p.T w p.b p.o x.pages
structure OwnS (c : SC) (w : World) (s : Store) : Prop where
 flash : FlashAt c w s.flash
 disk : OwnAt 1 intC c.D.T w c.D.b c.D.o s.disk
 nd : c.L.Nodup
section
variable {c : SC} {w w' : World} {f : List Block} {s : Store}
theorem rowsOf_get {f : List Block} {ps : List At} {i : Nat} {x : Block} {p : At} (hx : f[i]? = some x) (hp : ps[i]? = some p) : (rowsOf f ps)[i]? = some (rowOf x p):=by
 unfold rowsOf;rw [List.getElem?_zipWith,hx,hp]
theorem rowsOf_len {f : List Block} {ps : List At} (h : ps.length = f.length) : (rowsOf f ps).length = f.length:=by
 unfold rowsOf;rw [List.length_zipWith];omega
theorem FlashAt.lt (h : FlashAt c w f) : ∀ b ∈ c.fl,b < w.heap.size:=by
 intro b hb
 rcases List.mem_cons.1 hb with rfl | hb
 ·exact h.row.lt
 ·obtain ⟨p,hp,rfl⟩:=List.mem_map.1 hb
  obtain ⟨i,hi,rfl⟩:=List.mem_iff_getElem.1 hp
  have hif : i < f.length:=by rw [← h.len];exact hi
  exact (h.pages i f[i] c.ps[i] (List.getElem?_eq_getElem hif) (List.getElem?_eq_getElem hi)).lt
theorem FlashAt.keep (h : FlashAt c w f) (hk : ∀ b ∈ c.fl,w'.heap[b]? = w.heap[b]?) : FlashAt c w' f:=
 ⟨h.row.keep (hk _ (by simp [SC.fl])),h.len,fun i x p hx hp=>(h.pages i x p hx hp).keep (hk _ (List.mem_cons_of_mem _ (List.mem_map.2 ⟨p,List.mem_of_getElem? hp,rfl⟩)))⟩
theorem OwnS.lt (h : OwnS c w s) : ∀ b ∈ c.L,b < w.heap.size:=by
 intro b hb
 rcases List.mem_append.1 hb with hb | hb
 ·exact h.flash.lt b hb
 ·obtain rfl:=List.mem_singleton.1 hb;exact h.disk.lt
theorem OwnS.keep (h : OwnS c w s) (hk : ∀ b ∈ c.L,w'.heap[b]? = w.heap[b]?) : OwnS c w' s:=
 ⟨h.flash.keep fun b hb=>hk b (List.mem_append_left _ hb),h.disk.keep (hk _ (by simp [SC.L])),h.nd⟩
theorem OwnS.ext (h : OwnS c w s) (hx : Ext w w') : OwnS c w' s:=h.keep fun b hb=>hx.block b (h.lt b hb)
theorem OwnS.chg {L : List Nat} (h : OwnS c w s) (hx : Chg L w w') (hL : ∀ b ∈ c.L,b ∉ L) : OwnS c w' s:=h.keep fun b hb=>hx.block b (h.lt b hb) (hL b hb)
theorem OwnS.set (h : OwnS c w s) {p : Addr} (hp : p.block ∉ c.L) (u : Value) : OwnS c (w.setCell p u) s:=
 h.keep fun b hb=>Below.heap_setCell _ _ _ _ (by rintro rfl;exact hp hb)
theorem OwnS.set2 {p : Addr} {u : Value} (hp : p.block ∉ c.L) (h : OwnS c w s) : OwnS c (w.setCell p u) s:=h.set hp u
theorem OwnS.alloc2 {o : Obj} (h : OwnS c w s) : OwnS c (w.alloc o) s:=h.ext (ext_alloc (ext_refl _) _)
theorem OwnS.new (h : OwnS c w s) : ∀ b,w.heap.size ≤ b → b ∉ c.L:=fun b hb hm=>by have:=h.lt b hm;omega
theorem FlashAt.flash (h : FlashAt c w f) : Flash (Old w) w (c.F.v f.length) f:=by
 have hlt:=h.lt
 obtain ⟨k,hk,hi⟩:=h.row
 refine ⟨_,_,rfl,fun i x hx=>?_⟩
 have hil : i < f.length:=(List.getElem?_eq_some_iff.1 hx).1
 have hip : i < c.ps.length:=by rw [h.len];exact hil
 have hp:=h.pages i x c.ps[i] hx (List.getElem?_eq_getElem hip)
 refine ⟨c.F.b,c.F.o,rowC (rowOf x c.ps[i]),rfl,hlt _ (by simp [SC.fl]),⟨_,rfl,hp.of hp.lt _⟩,fun j u hu=>?_⟩
 rw [cell_block hk]
 exact hi i _ (rowsOf_get hx (List.getElem?_eq_getElem hip)) j u hu
theorem OwnS.fl (h : OwnS c w s) : Flash (Old w) w (c.fv s) s.flash:=h.flash.flash
theorem OwnS.dk (h : OwnS c w s) : Ints (Old w) w (c.dv s) s.disk:=h.disk.of h.disk.lt _
theorem SC.fl_nd (h : c.L.Nodup) : c.fl.Nodup:=(List.nodup_append.1 h).1
theorem SC.ps_ne {i j : Nat} {p q : At} (h : c.fl.Nodup) (hp : c.ps[i]? = some p) (hq : c.ps[j]? = some q) (hij : i ≠ j) : p.b ≠ q.b:=fun e =>
 hij (nodup_inj (List.nodup_cons.1 h).2 (b:=p.b) (by rw [List.getElem?_map,hp];rfl) (by rw [List.getElem?_map,hq,e];rfl))
theorem SC.F_ne {i : Nat} {p : At} (h : c.fl.Nodup) (hp : c.ps[i]? = some p) : p.b ≠ c.F.b:=fun e =>
 (List.nodup_cons.1 h).1 (List.mem_map.2 ⟨p,List.mem_of_getElem? hp,e⟩)
theorem SC.D_ne (h : c.L.Nodup) : ∀ b ∈ c.fl,b ≠ c.D.b:=fun b hb=>(List.nodup_append.1 h).2.2 b hb _ (by simp)
theorem FlashAt.two (h : FlashAt c w f) {i : Nat} {p : At} (hi : i < f.length) (hp : c.ps[i]? = some p) :
  w.cell? ⟨c.F.b,c.F.o + i * 2,none⟩ = some (p.v f[i].pages.length) ∧ w.cell? ⟨c.F.b,c.F.o + i * 2 + 1,none⟩ = some (.int .i64 f[i].worn):=by
 have hx:=rowsOf_get (List.getElem?_eq_getElem hi) hp
 exact ⟨h.row.cell hx (j:=0) rfl,h.row.cell hx (j:=1) rfl⟩
theorem zipWith_set {f : List Block} {ps : List At} {i : Nat} {x : Block} {p : At} (hp : ps[i]? = some p) : rowsOf (f.set i x) ps = (rowsOf f ps).set i (rowOf x p):=by
 unfold rowsOf
 apply List.ext_getElem?
 intro j
 rw [List.getElem?_zipWith,List.getElem?_set,List.getElem?_set,List.getElem?_zipWith]
 by_cases hij : i = j
 ·subst hij
  rw [if_pos rfl,if_pos rfl,hp]
  have hip : i < ps.length:=(List.getElem?_eq_some_iff.1 hp).1
  by_cases hf : i < f.length
  ·rw [if_pos hf,if_pos (by rw [List.length_zipWith];omega)]
  ·rw [if_neg hf,if_neg (by rw [List.length_zipWith];omega)]
 ·rw [if_neg hij,if_neg hij]
theorem FlashAt.worn (h : FlashAt c w f) (hnd : c.fl.Nodup) {i : Nat} {p : At} (hi : i < f.length) (hp : c.ps[i]? = some p) (n : Int) :
  FlashAt c (w.setCell ⟨c.F.b,c.F.o + i * 2 + 1,none⟩ (.int .i64 n)) (f.set i ⟨f[i].pages,n⟩):=by
 have hrl : i < (rowsOf f c.ps).length:=by rw [rowsOf_len h.len];exact hi
 have hget : (rowsOf f c.ps)[i] = rowOf f[i] p:=by
  have:=rowsOf_get (List.getElem?_eq_getElem hi) hp
  rw [List.getElem?_eq_getElem hrl] at this;exact Option.some.inj this
 refine ⟨?_,by rw [List.length_set];exact h.len,fun j x q hx hq=>?_⟩
 ·rw [zipWith_set hp]
  exact OwnAt.set1 (n:=2) (enc:=rowC) (fun _=>rfl) h.row hrl (j:=1) (by omega) _ _ (by rw [hget];rfl)
 ·have hne : q.b ≠ c.F.b:=SC.F_ne hnd hq
  have hk : OwnAt 5 pageC q.T w q.b q.o x.pages:=by
   rw [List.getElem?_set] at hx
   by_cases hij : i = j
   ·subst hij
    rw [if_pos rfl,if_pos hi] at hx
    obtain rfl:=Option.some.inj hx
    exact h.pages i f[i] q (List.getElem?_eq_getElem hi) hq
   ·rw [if_neg hij] at hx;exact h.pages j x q hx hq
  exact hk.keep (Below.heap_setCell _ _ _ _ hne)
theorem FlashAt.page (h : FlashAt c w f) (hnd : c.fl.Nodup) {i k : Nat} {p : At} (hi : i < f.length) (hp : c.ps[i]? = some p) (hk : k < f[i].pages.length) (y : Page) :
  FlashAt c (setAll w p.b (p.o + k * 5) (pageC y)) (f.set i ⟨f[i].pages.set k y,f[i].worn⟩):=by
 have hrl : i < (rowsOf f c.ps).length:=by rw [rowsOf_len h.len];exact hi
 have hget : (rowsOf f c.ps)[i] = rowOf f[i] p:=by
  have:=rowsOf_get (List.getElem?_eq_getElem hi) hp
  rw [List.getElem?_eq_getElem hrl] at this;exact Option.some.inj this
 refine ⟨?_,by rw [List.length_set];exact h.len,fun j x q hx hq=>?_⟩
 ·rw [zipWith_set hp,show rowOf ⟨f[i].pages.set k y,f[i].worn⟩ p = (rowsOf f c.ps)[i] from by rw [hget];simp [rowOf],List.set_getElem_self]
  exact h.row.keep (setAll_other _ (SC.F_ne hnd hp).symm _ _ _)
 ·rw [List.getElem?_set] at hx
  by_cases hij : i = j
  ·subst hij
   rw [hp] at hq
   obtain rfl:=Option.some.inj hq
   rw [if_pos rfl,if_pos hi] at hx
   obtain rfl:=Option.some.inj hx
   exact OwnAt.set (n:=5) (enc:=pageC) (fun _=>rfl) (by omega) (h.pages i f[i] p (List.getElem?_eq_getElem hi) hp) hk y
  ·rw [if_neg hij] at hx
   exact (h.pages j x q hx hq).keep (setAll_other _ (SC.ps_ne hnd hq hp (Ne.symm hij)) _ _ _)
end
theorem FlashAt.two' {c : SC} {w : World} {f : List Block} (h : FlashAt c w f) {i : Nat} {p : At} {x : Block} (hx : f[i]? = some x) (hp : c.ps[i]? = some p) :
  w.cell? ⟨c.F.b,c.F.o + i * 2,none⟩ = some (p.v x.pages.length) ∧ w.cell? ⟨c.F.b,c.F.o + i * 2 + 1,none⟩ = some (.int .i64 x.worn):=by
 obtain ⟨hi,rfl⟩:=List.getElem?_eq_some_iff.1 hx
 exact h.two hi hp
theorem FlashAt.page' {c : SC} {w : World} {f : List Block} (h : FlashAt c w f) (hnd : c.fl.Nodup) {i k : Nat} {p : At} {x : Block} (hx : f[i]? = some x) (hp : c.ps[i]? = some p) (hk : k < x.pages.length) (y : Page) :
  FlashAt c (setAll w p.b (p.o + k * 5) (pageC y)) (f.set i ⟨x.pages.set k y,x.worn⟩):=by
 obtain ⟨hi,rfl⟩:=List.getElem?_eq_some_iff.1 hx
 exact h.page hnd hi hp hk y
theorem FlashAt.there {c : SC} {w : World} {f : List Block} (h : FlashAt c w f) {i k : Nat} {p : At} {x : Block} (hx : f[i]? = some x) (hp : c.ps[i]? = some p) (hk : k < x.pages.length) : w.there p.b (p.o + k * 5) 5:=by
 intro j hj
 have hy:=(h.pages i x p hx hp)
 have:=hy.cell (List.getElem?_eq_getElem hk) (j:=j) (u:=(pageC x.pages[k])[j]'(by simpa using hj)) (List.getElem?_eq_getElem _)
 rw [this,hy.frozen];exact ⟨rfl,rfl⟩
theorem setAll_chg {L : List Nat} {w w' : World} {b o : Nat} (h : Chg L w w') (hb : b ∈ L) (xs : List Value) : Chg L w (setAll w' b o xs):=by
 have hbl:=setAll_below b 0 (Nat.zero_le _) xs w' o
 exact h.trans ⟨hbl.os,hbl.tape,hbl.output,hbl.size,fun k hk hn=>setAll_other b (by rintro rfl;exact hn hb) _ _ _⟩
theorem OwnStore.at_ {w : World} {f d : Value} {s : Store} {L : List Nat} (h : OwnStore w f d s L) (hnd : L.Nodup) : ∃ c : SC,c.L = L ∧ f = c.fv s ∧ d = c.dv s ∧ OwnS c w s:=by
 obtain ⟨B,bs,D,rfl,⟨rows,⟨T,o,cap,rfl,hrow⟩,h2,h3,h4⟩,TD,od,dcap,rfl,hd⟩:=h
 have hex : ∀ i : Fin bs.length,∃ p : At,p.b = bs[i] ∧ ∀ x r,s.flash[i.1]? = some x → rows[i.1]? = some r → r = rowOf x p ∧ OwnAt 5 pageC p.T w p.b p.o x.pages:=by
  intro i
  have hi:=i.2
  have hif : i.1 < s.flash.length:=by omega
  have hir : i.1 < rows.length:=by omega
  obtain ⟨h5,T',o',cap',hv,h6⟩:=h4 i.1 s.flash[i.1] rows[i.1] bs[i.1] (List.getElem?_eq_getElem hif) (List.getElem?_eq_getElem hir) (List.getElem?_eq_getElem hi)
  refine ⟨⟨bs[i.1],o',cap',T'⟩,rfl,fun x r hx hr=>?_⟩
  rw [List.getElem?_eq_getElem hif] at hx;rw [List.getElem?_eq_getElem hir] at hr
  obtain rfl:=Option.some.inj hx;obtain rfl:=Option.some.inj hr
  exact ⟨Prod.ext hv h5,h6⟩
 obtain ⟨g,hg⟩:=Classical.axiomOfChoice hex
 have hps : (List.ofFn g).map (·.b) = bs:=by
  apply List.ext_getElem
  ·simp
  ·intro i h1 h2;simp;exact (hg ⟨i,by simpa using h1⟩).1
 refine ⟨⟨⟨B,o,cap,T⟩,List.ofFn g,⟨D,od,dcap,TD⟩⟩,?_,?_,rfl,⟨⟨?_,by simp;omega,fun i x p hx hp=>?_⟩,hd,?_⟩⟩
 ·simp [SC.L,SC.fl,hps]
 ·show Value.slice _ _ _ = _;rw [h2]
 ·have : rowsOf s.flash (List.ofFn g) = rows:=by
   apply List.ext_getElem
   ·rw [rowsOf_len (by simp;omega)];omega
   ·intro i h1 h2'
    have hib : i < bs.length:=by omega
    have hif : i < s.flash.length:=by omega
    have:=rowsOf_get (f:=s.flash) (ps:=List.ofFn g) (List.getElem?_eq_getElem hif) (p:=g ⟨i,hib⟩) (by simp [hib])
    rw [List.getElem?_eq_getElem h1] at this
    rw [Option.some.inj this]
    exact ((hg ⟨i,hib⟩).2 s.flash[i] rows[i] (List.getElem?_eq_getElem hif) (List.getElem?_eq_getElem h2')).1.symm
  rw [this];exact hrow
 ·have hip : i < bs.length:=by have:=(List.getElem?_eq_some_iff.1 hp).1;simpa using this
  have hpe : p = g ⟨i,hip⟩:=by
   have:=hp
   simp [hip] at this;exact this.symm
  subst hpe
  exact ((hg ⟨i,hip⟩).2 x rows[i] hx (List.getElem?_eq_getElem (by omega))).2
 ·simp [SC.L,SC.fl,hps] at hnd ⊢;exact hnd
end Go.Bu
namespace Go.Bu
open Go Go.RowKit Go.Plan Go.Proofs
theorem ext_of2 {w w' : World} {a b : Obj} (h : Ext ((w.alloc a).alloc b) w') : Ext w w':=ext_trans (ext_alloc (ext_alloc (ext_refl _) _) _) h
theorem size_of2 {w : World} {a b : Obj} : w.heap.size ≤ ((w.alloc a).alloc b).heap.size:=by simp;omega
set_option maxHeartbeats 1000000 in
theorem l21Steps_c (fv dv : Value) (s : Store) (e : Event) (w : World) (h : StoreV w fv dv s) (hok : StoreP s) :
  Calls Tryz.prog 70 #[.agg #[fv,dv],eventA e] w (RetS w (playSteps s e)):=by
 have HO:=Lib.hid hok;clear hok
 have hsv:=h
 obtain ⟨hF,hD⟩:=h
 obtain ⟨fa,fc,rfl⟩:=hF.form
 obtain ⟨da,dc,rfl⟩:=hD.form
 obtain ⟨k,ea,eb,ec,et⟩:=e
 have hw : ∀ a b : Obj,StoreV ((w.alloc a).alloc b) (.slice fa s.flash.length fc) (.slice da s.disk.length dc) s:=fun a b=>hsv.ext (ext_alloc (ext_alloc (ext_refl _) _) _)
 have HV:=Lib.hid hw;clear hw
 by_cases h1 : k = 1
 ·subst h1
  have hq : playSteps s ⟨1,ea,eb,ec,et⟩ = writeSteps s.flash 1 ea eb:=rfl
  rw [hq];clear hq
  go_enter Tryz.func70,Tryz.ntmps70
  go_wp2_with fail
  refine (l12Write_c _ _ s 1 ea eb _ (HV.out _ _) HO.out.flash).mono ?_;rintro e1 w1 ⟨v1,rfl,hx1,hS,hl⟩
  go_wp2_with fail
  go_ret
  exact ⟨_,rfl,ext_of2 hx1,hS.base size_of2,hl⟩
 by_cases h2 : k = 2
 ·subst h2
  have hq : playSteps s ⟨2,ea,eb,ec,et⟩ = addrStep (flushSteps s) ea:=rfl
  rw [hq];clear hq
  go_enter Tryz.func70,Tryz.ntmps70
  go_wp2_with fail
  refine (l12Flush_c _ _ s ea _ (HV.out _ _) HO.out).mono ?_;rintro e1 w1 ⟨v1,rfl,hx1,hS,hl⟩
  go_wp2_with fail
  go_ret
  exact ⟨_,rfl,ext_of2 hx1,hS.base size_of2,hl⟩
 by_cases h3 : k = 3
 ·subst h3
  have hq : playSteps s ⟨3,ea,eb,ec,et⟩ = addrStep (fillSteps s) ea:=rfl
  rw [hq];clear hq
  go_enter Tryz.func70,Tryz.ntmps70
  go_wp2_with fail
  refine (l12Fill_c _ _ s ea _ (HV.out _ _) HO.out).mono ?_;rintro e1 w1 ⟨v1,rfl,hx1,hS,hl⟩
  go_wp2_with fail
  go_ret
  exact ⟨_,rfl,ext_of2 hx1,hS.base size_of2,hl⟩
 ·have hq : playSteps s ⟨k,ea,eb,ec,et⟩ = []:=by unfold playSteps;rw [if_neg h1,if_neg h2,if_neg h3]
  rw [hq];clear hq
  have b1 : (k == 1) = false:=by simpa using h1
  have b2 : (k == 2) = false:=by simpa using h2
  have b3 : (k == 3) = false:=by simpa using h3
  clear h1 h2 h3
  go_enter Tryz.func70,Tryz.ntmps70
  go_wp2_with fail
  go_ret
  exact ⟨_,rfl,by go_grown,SRow.empty (hg_new (by simp)) (by omega),by simp⟩
end Go.Bu
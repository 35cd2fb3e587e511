/- What records a flash has, the last one of each address, and that order is kept by writing and wiping: plain. A store stays a store while steps of the reference's lists are done, wherever they end: plain. A store stays a store, wherever the steps of an event end: plain. A pair stays a pair under all that is done to it. PairLose of the reference. Drawn pairs. The laws' marks in memory of any shape: rows of numbers, arguments, results. Pairs that calls return: read, compared, marked, held. Pairs that may be read: compared with one another; the draws of pairs. Calls of what the pair laws use, of drawn pairs. Regions that draw their order, in which a table is laid once and looked into, while calls turn other memory but make none. -/import Derived.Test.YtcainddboblpbaaGreatZ5
import Derived.Test.YtcainddboblpbaaGreatZ4
import Derived.Test.YtcainddboblpbaaGreatZ6
import Derived.Test.YtcainddboblpbaaGreatZ1
set_option maxHeartbeats 2000000
set_option linter.unusedVariables false
set_option linter.unusedSimpArgs false
namespace Go.Bu
open Go
def W (b : Block) (r : Rec) : Prop:=∃ p ∈ b.pages,p.state = 1 ∧ p.r = r
def WF (f : List Block) (r : Rec) : Prop:=∃ b ∈ f,W b r
theorem W.seq {b : Block} {r : Rec} (h : W b r) : r.seq ∈ pseqs b.pages:=by obtain ⟨p,hp,h1,rfl⟩:=h;exact mem_pseqs.2 ⟨p,hp,h1,rfl⟩
theorem W.of_seq {b : Block} {n : Int} (h : n ∈ pseqs b.pages) : ∃ r,W b r ∧ r.seq = n:=by obtain ⟨p,hp,h1,h2⟩:=mem_pseqs.1 h;exact ⟨p.r,⟨p,hp,h1,rfl⟩,h2⟩
theorem WF.seq {f : List Block} {r : Rec} (h : WF f r) : r.seq ∈ seqs f:=by obtain ⟨b,hb,p,hp,h1,rfl⟩:=h;exact mem_seqs.2 ⟨b,hb,p,hp,h1,rfl⟩
theorem WF.ok {f : List Block} (hf : FlashOk f) {r : Rec} (h : WF f r) : recOkB r = true:=by obtain ⟨b,hb,p,hp,h1,rfl⟩:=h;exact liveP_ok hf hb hp h1
theorem W.ok {f : List Block} (hf : FlashOk f) {b : Block} (hb : b ∈ f) {r : Rec} (h : W b r) : recOkB r = true:=WF.ok hf ⟨b,hb,h⟩
theorem filterMap_uniq {α β : Type} (g : α → Option β) : ∀ (xs : List α),(xs.filterMap g).Nodup → ∀ x y v,x ∈ xs → y ∈ xs → g x = some v → g y = some v → x = y
 | [],_,_,_,_,hx,_,_,_=>by cases hx
 | a :: xs,hn,x,y,v,hx,hy,h1,h2=>by
  have hin : ∀ z,z ∈ xs → g z = some v → v ∈ xs.filterMap g:=fun z hz h=>List.mem_filterMap.2 ⟨z,hz,h⟩
  cases ha : g a with
  | none =>
   rw [List.filterMap_cons_none ha] at hn
   rcases List.mem_cons.1 hx with rfl | hx
   ·rw [h1] at ha;cases ha
   ·rcases List.mem_cons.1 hy with rfl | hy
    ·rw [h2] at ha;cases ha
    ·exact filterMap_uniq g xs hn x y v hx hy h1 h2
  | some u =>
   rw [List.filterMap_cons_some ha,List.nodup_cons] at hn
   rcases List.mem_cons.1 hx with e1 | hx1
   ·rcases List.mem_cons.1 hy with e2 | hy1
    ·rw [e1,e2]
    ·rw [e1,ha] at h1;cases h1;exact absurd (hin y hy1 h2) hn.1
   ·rcases List.mem_cons.1 hy with e2 | hy1
    ·rw [e2,ha] at h2;cases h2;exact absurd (hin x hx1 h1) hn.1
    ·exact filterMap_uniq g xs hn.2 x y v hx1 hy1 h1 h2
theorem seqs_flat (f : List Block) : seqs f = (f.flatMap (·.pages)).filterMap seqOf:=by
 unfold seqs pseqs
 induction f with
 | nil=>rfl
 | cons b f ih=>rw [List.flatMap_cons,List.flatMap_cons,List.filterMap_append,ih]
theorem FlashOk.rec_uniq {f : List Block} (h : FlashOk f) {r q : Rec} (hr : WF f r) (hq : WF f q) (he : r.seq = q.seq) : r = q:=by
 have hn:=h.nd
 rw [seqs_flat] at hn
 obtain ⟨b,hb,p,hp,h1,rfl⟩:=hr
 obtain ⟨c,hc,p',hp',h1',rfl⟩:=hq
 have:=filterMap_uniq seqOf _ hn p p' p.r.seq (List.mem_flatMap.2 ⟨b,hb,hp⟩) (List.mem_flatMap.2 ⟨c,hc,hp'⟩) (by unfold seqOf;rw [if_pos h1]) (by unfold seqOf;rw [if_pos h1',he])
 rw [this]
theorem FlashOk.one_block {f : List Block} (h : FlashOk f) {i k : Nat} {a b : Block} (ha : f[i]? = some a) (hb : f[k]? = some b) (hik : i ≠ k) {m : Int} (h1 : m ∈ pseqs a.pages) (h2 : m ∈ pseqs b.pages) : False:=by
 obtain ⟨hi,rfl⟩:=List.getElem?_eq_some_iff.1 ha
 obtain ⟨hk,rfl⟩:=List.getElem?_eq_some_iff.1 hb
 obtain ⟨p,hp,p1,p2⟩:=mem_pseqs.1 h1
 obtain ⟨q,hq,q1,q2⟩:=mem_pseqs.1 h2
 exact h.apart hi hk hik hp hq p1 q1 (by omega)
theorem mostFold_spec : ∀ (ps : List Page) (n : Int),n ≤ ps.foldl mostStep n ∧ (∀ p ∈ ps,p.r.seq ≤ ps.foldl mostStep n)
 | [],n=>⟨Int.le_refl _,fun _ h=>(by cases h)⟩
 | p :: ps,n=>by
  rw [List.foldl_cons]
  obtain ⟨h1,h2⟩:=mostFold_spec ps (mostStep n p)
  have h3 : n ≤ mostStep n p ∧ p.r.seq ≤ mostStep n p:=by unfold mostStep;split <;> omega
  refine ⟨by omega,fun q hq=>?_⟩
  rcases List.mem_cons.1 hq with rfl | hq
  ·omega
  ·exact h2 q hq
theorem leastFold_spec : ∀ (ps : List Page) (n : Int),0 ≤ n → 0 ≤ ps.foldl leastStep n ∧ (0 < n → 0 < ps.foldl leastStep n ∧ ps.foldl leastStep n ≤ n) ∧ (∀ p ∈ ps,0 < p.r.seq → 0 < ps.foldl leastStep n ∧ ps.foldl leastStep n ≤ p.r.seq)
 | [],n,h=>⟨h,fun h=>⟨h,Int.le_refl _⟩,fun _ h=>(by cases h)⟩
 | p :: ps,n,h=>by
  rw [List.foldl_cons]
  have h3 : 0 ≤ leastStep n p ∧ (0 < n → 0 < leastStep n p ∧ leastStep n p ≤ n) ∧ (0 < p.r.seq → 0 < leastStep n p ∧ leastStep n p ≤ p.r.seq):=by unfold leastStep;split <;> omega
  obtain ⟨h1,h2,h4⟩:=leastFold_spec ps (leastStep n p) h3.1
  refine ⟨h1,fun hn=>?_,fun q hq hs=>?_⟩
  ·have:=h3.2.1 hn;have:=h2 this.1;omega
  ·rcases List.mem_cons.1 hq with rfl | hq
   ·have:=h3.2.2 hs;have:=h2 this.1;omega
   ·exact h4 q hq hs
theorem pg_state {p : Page} (h : pageOkB p = true) (hs : 0 < p.r.seq) : p.state = 1:=Decidable.byContradiction fun hn=>by have:=(pageOk_one h).2 hn;omega
theorem most_spec {ps : List Page} (h : ∀ p ∈ ps,pageOkB p = true) : (∀ n ∈ pseqs ps,1 ≤ n ∧ n ≤ most ps) ∧ (0 < most ps → most ps ∈ pseqs ps) ∧ 0 ≤ most ps:=by
 have hf:=mostFold_spec ps 0
 refine ⟨fun n hn=>?_,fun hm=>?_,hf.1⟩
 ·obtain ⟨p,hp,h1,rfl⟩:=mem_pseqs.1 hn
  exact ⟨(pageOk_one (h p hp)).1 h1,hf.2 p hp⟩
 ·rcases most_mem ps 0 with e | ⟨p,hp,e⟩
  ·unfold most at hm;omega
  ·have e' : p.r.seq = most ps:=e
   exact mem_pseqs.2 ⟨p,hp,pg_state (h p hp) (by omega),e'⟩
theorem least_spec {ps : List Page} (h : ∀ p ∈ ps,pageOkB p = true) : (∀ n ∈ pseqs ps,least ps ≤ n) ∧ (0 < most ps → least ps ∈ pseqs ps):=by
 have hf:=leastFold_spec ps 0 (Int.le_refl _)
 refine ⟨fun n hn=>?_,fun hm=>?_⟩
 ·obtain ⟨p,hp,h1,rfl⟩:=mem_pseqs.1 hn
  exact (hf.2.2 p hp (by have:=(pageOk_one (h p hp)).1 h1;omega)).2
 ·obtain ⟨p,hp,h1,h2⟩:=mem_pseqs.1 ((most_spec h).2.1 hm)
  have hp0:=(hf.2.2 p hp (by omega)).1
  rcases least_mem ps 0 with e | ⟨q,hq,e⟩
  ·rw [e] at hp0;exact absurd hp0 (by decide)
  ·have e' : q.r.seq = least ps:=e
   have h0 : 0 < least ps:=hp0
   exact mem_pseqs.2 ⟨q,hq,pg_state (h q hq) (by omega),e'⟩
def ordP (a b : Block) : Prop:=(∀ m ∈ pseqs a.pages,∀ n ∈ pseqs b.pages,n ≤ m) ∨ ∀ m ∈ pseqs a.pages,∀ n ∈ pseqs b.pages,m ≤ n
def topP (a b : Block) : Prop:=partB a.pages = true → partB b.pages = false ∧ (pseqs a.pages ≠ [] → ∀ n ∈ pseqs b.pages,∃ m ∈ pseqs a.pages,n ≤ m)
theorem ordP.symm {a b : Block} (h : ordP a b) : ordP b a:=h.elim (fun h=>.inr fun m hm n hn=>h n hn m hm) fun h=>.inl fun m hm n hn=>h n hn m hm
theorem ne_nil_of_mem' {α : Type} {x : α} {xs : List α} (h : x ∈ xs) : xs ≠ []:=by rintro rfl;cases h
theorem badPair_recs {i k : Nat} {a b : Block} (ha : ∀ p ∈ a.pages,pageOkB p = true) (hb : ∀ p ∈ b.pages,pageOkB p = true) : badPair i k a b = false ↔ (i ≠ k → ordP a b ∧ topP a b):=by
 rw [badPair_iff]
 obtain ⟨a1,a2,a3⟩:=most_spec ha
 obtain ⟨b1,b2,b3⟩:=most_spec hb
 obtain ⟨a4,a5⟩:=least_spec ha
 obtain ⟨b4,b5⟩:=least_spec hb
 have hmm : ∀ {ps : List Page},(∀ n ∈ pseqs ps,1 ≤ n ∧ n ≤ most ps) → pseqs ps ≠ [] → 0 < most ps:=by
  intro ps h hne
  obtain ⟨x,hx⟩:=List.exists_mem_of_ne_nil _ hne
  have:=h x hx;omega
 constructor
 ·intro h hik
  obtain ⟨h1,h2⟩:=h hik
  refine ⟨?_,fun hpt=>?_⟩
  ·by_cases hA : 0 < most a.pages
   ·by_cases hB : 0 < most b.pages
    ·by_cases hl : least a.pages < most b.pages
     ·right
      intro m hm n hn
      have:=(a1 m hm).2;have:=b4 n hn
      omega
     ·left
      intro m hm n hn
      have:=(b1 n hn).2;have:=a4 m hm
      omega
    ·left
     intro m hm n hn
     exact absurd (hmm b1 (ne_nil_of_mem' hn)) hB
   ·left
    intro m hm n hn
    exact absurd (hmm a1 (ne_nil_of_mem' hm)) hA
  ·refine ⟨?_,fun hne n hn=>⟨most a.pages,a2 (hmm a1 hne),?_⟩⟩
   ·rw [← Bool.not_eq_true];exact fun hb=>h2 ⟨hpt,.inl hb⟩
   ·have:=(b1 n hn).2
    have h0:=hmm a1 hne
    have : ¬ most a.pages < most b.pages:=fun hlt=>h2 ⟨hpt,.inr ⟨h0,hlt⟩⟩
    omega
 ·intro h hik
  obtain ⟨h1,h2⟩:=h hik
  refine ⟨?_,?_⟩
  ·rintro ⟨c1,c2,c3,c4⟩
   rcases h1 with h1 | h1
   ·have:=h1 _ (a5 c1) _ (b2 c2);omega
   ·have:=h1 _ (a2 c1) _ (b5 c2);omega
  ·rintro ⟨hpt,h3⟩
   obtain ⟨h4,h5⟩:=h2 hpt
   rcases h3 with h3 | ⟨h3,h6⟩
   ·rw [h3] at h4;cases h4
   ·have hma:=a2 h3
    obtain ⟨m,hm,hle⟩:=h5 (ne_nil_of_mem' hma) _ (b2 (by omega))
    have:=(a1 m hm).2
    omega
structure Ord (f : List Block) : Prop where
 ok : FlashOk f
 pair : ∀ (i k : Nat) a b,f[i]? = some a → f[k]? = some b → i ≠ k → ordP a b ∧ topP a b
theorem order_iff {f : List Block} : orderB f = true ↔ Ord f:=by
 unfold orderB
 rw [Bool.and_eq_true,flashOk_iff]
 constructor
 ·rintro ⟨h1,h2⟩
  refine ⟨h1,fun i k a b ha hb hik=>?_⟩
  obtain ⟨hi,rfl⟩:=List.getElem?_eq_some_iff.1 ha
  obtain ⟨hk,rfl⟩:=List.getElem?_eq_some_iff.1 hb
  have:=(orderIn_iff _ _ f 0).1 ((orderOut_iff f f 0).1 h2 i hi) k hk
  exact (badPair_recs (h1.pg (List.getElem_mem _)) (h1.pg (List.getElem_mem _))).1 this (by omega)
 ·rintro ⟨h1,h2⟩
  refine ⟨h1,(orderOut_iff f f 0).2 fun i hi=>(orderIn_iff _ _ f 0).2 fun k hk=>?_⟩
  refine (badPair_recs (h1.pg (List.getElem_mem _)) (h1.pg (List.getElem_mem _))).2 fun hik=>?_
  exact h2 i k _ _ (List.getElem?_eq_getElem hi) (List.getElem?_eq_getElem hk) (by omega)
theorem lastFold_spec (a : Int) : ∀ (ps : List Page) (r : Rec),(ps.foldl (lastStep a) r = r ∨ ∃ p ∈ ps,p.state = 1 ∧ p.r = ps.foldl (lastStep a) r ∧ p.r.addr = a) ∧ r.seq ≤ (ps.foldl (lastStep a) r).seq ∧ ∀ p ∈ ps,p.state = 1 → p.r.addr = a → p.r.seq ≤ (ps.foldl (lastStep a) r).seq
 | [],r=>⟨.inl rfl,Int.le_refl _,fun _ h=>(by cases h)⟩
 | p :: ps,r=>by
  rw [List.foldl_cons]
  obtain ⟨h1,h2,h3⟩:=lastFold_spec a ps (lastStep a r p)
  have h4 : r.seq ≤ (lastStep a r p).seq ∧ (p.state = 1 → p.r.addr = a → p.r.seq ≤ (lastStep a r p).seq):=by
   unfold lastStep
   split
   ·exact ⟨by omega,fun _ _=>Int.le_refl _⟩
   ·rename_i hc
    refine ⟨Int.le_refl _,fun s1 s2=>?_⟩
    have : ¬ r.seq < p.r.seq:=fun h=>hc ⟨s1,s2,h⟩
    omega
  refine ⟨?_,by omega,fun q hq s1 s2=>?_⟩
  ·rcases h1 with h1 | ⟨q,hq,s1,s2,s3⟩
   ·unfold lastStep at h1
    split at h1
    ·rename_i hc
     refine .inr ⟨p,by simp,hc.1,?_,hc.2.1⟩
     unfold lastStep;rw [if_pos hc,h1]
    ·rename_i hc
     left;unfold lastStep;rw [if_neg hc];exact h1
   ·exact .inr ⟨q,by simp [hq],s1,s2,s3⟩
  ·rcases List.mem_cons.1 hq with rfl | hq
   ·have:=h4.2 s1 s2;omega
   ·exact h3 q hq s1 s2
theorem last_flat (f : List Block) (a : Int) : last f a = (f.flatMap (·.pages)).foldl (lastStep a) rec0:=by rw [List.foldl_flatMap];rfl
theorem WF.flat {f : List Block} {r : Rec} : WF f r ↔ ∃ p ∈ f.flatMap (·.pages),p.state = 1 ∧ p.r = r:=
 ⟨fun ⟨b,hb,p,hp,h1,h2⟩=>⟨p,List.mem_flatMap.2 ⟨b,hb,hp⟩,h1,h2⟩,fun ⟨p,hp,h1,h2⟩=>by obtain ⟨b,hb,hp⟩:=List.mem_flatMap.1 hp;exact ⟨b,hb,p,hp,h1,h2⟩⟩
theorem last_spec {f : List Block} (h : FlashOk f) (a : Int) : (last f a = rec0 ∧ ∀ r,WF f r → r.addr ≠ a) ∨ (WF f (last f a) ∧ (last f a).addr = a ∧ 0 < (last f a).seq ∧ ∀ r,WF f r → r.addr = a → r.seq ≤ (last f a).seq):=by
 rw [last_flat]
 obtain ⟨h1,h2,h3⟩:=lastFold_spec a (f.flatMap (·.pages)) rec0
 generalize (f.flatMap (·.pages)).foldl (lastStep a) rec0 = x at *
 by_cases hx : 0 < x.seq
 ·right
  rcases h1 with rfl | ⟨p,hp,s1,s2,s3⟩
  ·exact absurd hx (by decide)
  ·exact ⟨WF.flat.2 ⟨p,hp,s1,s2⟩,by rw [← s2];exact s3,hx,fun r hr ha=>by obtain ⟨q,hq,t1,rfl⟩:=WF.flat.1 hr;exact h3 q hq t1 ha⟩
 ·left
  refine ⟨?_,fun r hr ha=>?_⟩
  ·rcases h1 with h1 | ⟨p,hp,s1,s2,s3⟩
   ·exact h1
   ·have:=recOkB_iff.1 (WF.ok h (WF.flat.2 ⟨p,hp,s1,rfl⟩));rw [s2] at this;omega
  ·have:=recOkB_iff.1 (WF.ok h hr)
   obtain ⟨q,hq,t1,rfl⟩:=WF.flat.1 hr
   have:=h3 q hq t1 ha
   omega
theorem last_eq {f : List Block} (h : FlashOk f) {a : Int} {r : Rec} (hr : WF f r) (ha : r.addr = a) (hm : ∀ q,WF f q → q.addr = a → q.seq ≤ r.seq) : last f a = r:=by
 rcases last_spec h a with ⟨_,h2⟩ | ⟨h1,h2,_,h3⟩
 ·exact absurd ha (h2 r hr)
 ·have:=hm _ h1 h2;have:=h3 r hr ha
  exact h.rec_uniq h1 hr (by omega)
theorem last_none {f : List Block} (h : FlashOk f) {a : Int} (hm : ∀ q,WF f q → q.addr ≠ a) : last f a = rec0:=by
 rcases last_spec h a with ⟨h1,_⟩ | ⟨h1,h2,_,_⟩
 ·exact h1
 ·exact absurd h2 (hm _ h1)
theorem last_same {f g : List Block} (hf : FlashOk f) (hg : FlashOk g) (h : ∀ r,WF f r ↔ WF g r) (a : Int) : last g a = last f a:=by
 rcases last_spec hf a with ⟨h1,h2⟩ | ⟨h1,h2,_,h3⟩
 ·rw [h1];exact last_none hg fun q hq=>h2 q ((h q).2 hq)
 ·exact last_eq hg ((h _).1 h1) h2 fun q hq=>h3 q ((h q).2 hq)
theorem maxSeq_ge {f : List Block} (h : FlashOk f) {r : Rec} (hr : WF f r) : r.seq ≤ maxSeq f:=by
 have key : ∀ (bs : List Block) (n : Int),n ≤ bs.foldl nextStep n ∧ ∀ b ∈ bs,most b.pages ≤ bs.foldl nextStep n:=by
  intro bs
  induction bs with
  | nil=>exact fun n=>⟨Int.le_refl _,fun _ h=>(by cases h)⟩
  | cons b bs ih =>
   intro n
   rw [List.foldl_cons]
   obtain ⟨h1,h2⟩:=ih (nextStep n b)
   have h3 : n ≤ nextStep n b ∧ most b.pages ≤ nextStep n b:=by unfold nextStep;split <;> omega
   refine ⟨by omega,fun c hc=>?_⟩
   rcases List.mem_cons.1 hc with rfl | hc
   ·omega
   ·exact h2 c hc
 obtain ⟨b,hb,hw⟩:=hr
 have:=(key f 0).2 b hb
 have:=((most_spec (h.pg hb)).1 _ hw.seq).2
 unfold maxSeq;omega
end Go.Bu
namespace Go.Bu
open Go
theorem part_no {b : Block} (h : cleanN b.pages = 0) : partB b.pages = false:=by unfold partB;rw [h];rfl
theorem clean_no_recs {b : Block} (hb : blockB b = true) (h : partB b.pages = false) (h0 : cleanN b.pages ≠ 0) : pseqs b.pages = []:=by
 obtain ⟨f1,f2,f3,f4⟩:=blockB_free hb
 have h4 : cleanN b.pages = 4:=by
  unfold partB at h
  simp only [Bool.and_eq_false_iff,decide_eq_false_iff_not] at h
  omega
 rw [h4] at f2
 have : ∀ p ∈ b.pages,p.state = 0:=f2
 rw [List.eq_nil_iff_forall_not_mem]
 intro n hn
 obtain ⟨p,hp,h1,_⟩:=mem_pseqs.1 hn
 have:=this p hp
 omega
structure Openable (f : List Block) (i : Nat) : Prop where
 at_ : ∃ b,f[i]? = some b ∧ cleanN b.pages ≠ 0
 part : ∀ (k : Nat) c,k ≠ i → f[k]? = some c → partB c.pages = false
theorem write_get {f : List Block} (h : FlashOk f) {i : Nat} {b : Block} (hb : f[i]? = some b) (hc : cleanN b.pages ≠ 0) {r : Rec} (hs : r.seq ∉ seqs f) (t : Bool) :
  ∃ b',writeF f i r t = f.set i b' ∧ (∀ n,n ∈ pseqs b'.pages ↔ n ∈ pseqs b.pages ∨ (t = false ∧ n = r.seq)) ∧ (∀ q,W b' q ↔ W b q ∨ (t = false ∧ q = r)):=by
 obtain ⟨hi,rfl⟩:=List.getElem?_eq_some_iff.1 hb
 have hbl:=h.blocks _ (List.getElem_mem hi)
 obtain ⟨f1,f2,f3,f4⟩:=blockB_free hbl
 have h4:=(blockB_iff.1 hbl).1
 unfold writeF writeOk
 rw [blockAt_get hi]
 have hu : seqUsed f r.seq = false:=by rw [← Bool.not_eq_true];exact fun e=>hs (seqUsed_iff.1 e)
 rw [if_pos (by rw [hu];simp [hc])]
 have hk4 : 4 - (cleanN f[i].pages).toNat < f[i].pages.length:=by omega
 have hst : (f[i].pages[4 - (cleanN f[i].pages).toNat]).state = 0:=f2 _ (by rw [List.drop_eq_getElem_cons hk4];exact List.mem_cons_self)
 generalize 4 - (cleanN f[i].pages).toNat = j at *
 refine ⟨_,rfl,?_⟩
 have key : ∀ q,W ⟨f[i].pages.set j (pageW r t),f[i].worn⟩ q ↔ W f[i] q ∨ (t = false ∧ q = r):=by
  intro q
  constructor
  ·rintro ⟨p,hp,h1,h2⟩
   rcases mem_set hp with hp | rfl
   ·exact .inl ⟨p,hp,h1,h2⟩
   ·cases t
    ·exact .inr ⟨rfl,h2.symm⟩
    ·exact absurd h1 (by simp [pageW])
  ·rintro (⟨p,hp,h1,h2⟩ | ⟨rfl,rfl⟩)
   ·obtain ⟨m,hm,rfl⟩:=List.mem_iff_getElem.1 hp
    refine ⟨f[i].pages[m],List.mem_iff_getElem.2 ⟨m,by simpa using hm,?_⟩,h1,h2⟩
    rw [List.getElem_set_ne (by rintro rfl;omega)]
   ·exact ⟨_,List.mem_iff_getElem.2 ⟨j,by simpa using hk4,List.getElem_set_self (by simpa using hk4)⟩,rfl,rfl⟩
 refine ⟨fun n=>?_,key⟩
 constructor
 ·intro hn
  obtain ⟨q,hq,rfl⟩:=W.of_seq hn
  rcases (key q).1 hq with hq | ⟨ht,rfl⟩
  ·exact .inl hq.seq
  ·exact .inr ⟨ht,rfl⟩
 ·rintro (hn | ⟨rfl,rfl⟩)
  ·obtain ⟨q,hq,rfl⟩:=W.of_seq hn
   exact ((key q).2 (.inl hq)).seq
  ·exact ((key r).2 (.inr ⟨rfl,rfl⟩)).seq
theorem Ord.write {f : List Block} (h : Ord f) {i : Nat} (ho : Openable f i) {r : Rec} (hr : recOkB r = true) (hnew : ∀ n ∈ seqs f,n < r.seq) (t : Bool) : Ord (writeF f i r t):=by
 obtain ⟨b,hb,hc⟩:=ho.at_
 have hi4 : i < 4:=by have:=(List.getElem?_eq_some_iff.1 hb).1;have:=h.ok.len;omega
 have hok:=h.ok.write hi4 hr t
 have hil:=(List.getElem?_eq_some_iff.1 hb).1
 obtain ⟨b',e,hm,_⟩:=write_get (r:=r) h.ok hb hc (fun hs=>by have:=hnew _ hs;omega) t
 rw [e] at hok ⊢
 have hbl:=h.ok.blocks b (List.mem_of_getElem? hb)
 have hlt : ∀ {k : Nat} {c : Block},f[k]? = some c → ∀ n ∈ pseqs c.pages,n < r.seq:=by
  intro k c hk n hn
  obtain ⟨q,hq,rfl⟩:=W.of_seq hn
  exact hnew _ (WF.seq ⟨c,List.mem_of_getElem? hk,hq⟩)
 have key : ∀ (k : Nat) c,k ≠ i → f[k]? = some c → ordP b' c ∧ topP b' c:=by
  intro k c hki hk
  obtain ⟨o1,o2⟩:=h.pair i k b c hb hk (Ne.symm hki)
  have hpc:=ho.part k c hki hk
  by_cases hpb : partB b.pages = true
  ·obtain ⟨_,o4⟩:=o2 hpb
   by_cases he : pseqs b.pages = []
   ·refine ⟨.inl fun m hm' n hn=>?_,fun _=>⟨hpc,fun hne n hn=>?_⟩⟩
    ·rcases (hm m).1 hm' with hm' | ⟨_,rfl⟩
     ·rw [he] at hm';cases hm'
     ·have:=hlt hk n hn;omega
    ·obtain ⟨m,hm'⟩:=List.exists_mem_of_ne_nil _ hne
     rcases (hm m).1 hm' with hm'' | ⟨ht,rfl⟩
     ·rw [he] at hm'';cases hm''
     ·exact ⟨_,hm',by have:=hlt hk n hn;omega⟩
   ·refine ⟨.inl fun m hm' n hn=>?_,fun _=>⟨hpc,fun hne n hn=>?_⟩⟩
    ·rcases (hm m).1 hm' with hm' | ⟨_,rfl⟩
     ·rcases o1 with o1 | o1
      ·exact o1 m hm' n hn
      ·obtain ⟨m0,h0,hle⟩:=o4 he n hn
       have h1:=o1 m0 h0 n hn
       have : m0 = n:=by omega
       subst this
       exact (h.ok.one_block hb hk (Ne.symm hki) h0 hn).elim
     ·have:=hlt hk n hn;omega
    ·obtain ⟨m0,h0,hle⟩:=o4 he n hn
     exact ⟨m0,(hm m0).2 (.inl h0),hle⟩
  ·have he:=clean_no_recs hbl (by simpa using hpb) hc
   refine ⟨.inl fun m hm' n hn=>?_,fun _=>⟨hpc,fun hne n hn=>?_⟩⟩
   ·rcases (hm m).1 hm' with hm' | ⟨_,rfl⟩
    ·rw [he] at hm';cases hm'
    ·have:=hlt hk n hn;omega
   ·obtain ⟨m,hm'⟩:=List.exists_mem_of_ne_nil _ hne
    rcases (hm m).1 hm' with hm'' | ⟨ht,rfl⟩
    ·rw [he] at hm'';cases hm''
    ·exact ⟨_,hm',by have:=hlt hk n hn;omega⟩
 refine ⟨hok,fun k l x y hx hy hkl=>?_⟩
 rw [List.getElem?_set] at hx hy
 by_cases hki : i = k
 ·subst hki
  rw [if_pos rfl,if_pos hil] at hx
  obtain rfl:=Option.some.inj hx
  rw [if_neg hkl] at hy
  exact key l y (Ne.symm hkl) hy
 ·rw [if_neg hki] at hx
  by_cases hli : i = l
  ·subst hli
   rw [if_pos rfl,if_pos hil] at hy
   obtain rfl:=Option.some.inj hy
   obtain ⟨k1,k2⟩:=key k x (Ne.symm hki) hx
   exact ⟨k1.symm,fun hp=>by rw [ho.part k x (Ne.symm hki) hx] at hp;cases hp⟩
  ·rw [if_neg hli] at hy
   exact h.pair k l x y hx hy hkl
theorem wipe_get {f : List Block} {i : Nat} (hi : i < f.length) (hw : (blockAt f i).worn < 200) (t : Bool) :
  ∃ b',wipeF f i t = f.set i b' ∧ pseqs b'.pages = [] ∧ (∀ q,¬ W b' q) ∧ partB b'.pages = false ∧ (t = false → cleanN b'.pages ≠ 0):=by
 unfold wipeF
 rw [if_neg (by omega)]
 refine ⟨_,rfl,by cases t <;> rfl,?_,by cases t <;> rfl,by rintro rfl;intro h;cases h⟩
 rintro q ⟨p,hp,h1,_⟩
 obtain rfl:=List.eq_of_mem_replicate hp
 cases t <;> exact absurd h1 (by simp [blank,tornSt])
theorem Ord.wipe {f : List Block} (h : Ord f) {i : Nat} (hi : i < f.length) (hp : ∀ b ∈ f,partB b.pages = false) (t : Bool) : Ord (wipeF f i t):=by
 by_cases hw : (blockAt f i).worn < 200
 ·have hok:=h.ok.wipe (i:=i) (by have:=h.ok.len;omega) t
  obtain ⟨b',e,h1,h2,h3,h4⟩:=wipe_get hi hw t
  rw [e] at hok ⊢
  have hpp : ∀ (k : Nat) x,(f.set i b')[k]? = some x → partB x.pages = false:=by
   intro k x hx
   rcases mem_set (List.mem_of_getElem? hx) with hx | rfl
   ·exact hp x hx
   ·exact h3
  refine ⟨hok,fun k l x y hx hy hkl=>⟨?_,fun hpx=>by rw [hpp k x hx] at hpx;cases hpx⟩⟩
  rw [List.getElem?_set] at hx hy
  by_cases hki : i = k
  ·subst hki
   rw [if_pos rfl,if_pos hi] at hx
   obtain rfl:=Option.some.inj hx
   exact .inl fun m hm=>by rw [h1] at hm;cases hm
  ·rw [if_neg hki] at hx
   by_cases hli : i = l
   ·subst hli
    rw [if_pos rfl,if_pos hi] at hy
    obtain rfl:=Option.some.inj hy
    exact .inl fun m hm n hn=>by rw [h1] at hn;cases hn
   ·rw [if_neg hli] at hy
    exact (h.pair k l x y hx hy hkl).1
 ·unfold wipeF;rw [if_pos (by omega)];exact h
theorem openScan_spec {f : List Block} (hf : ∀ b ∈ f,0 ≤ cleanN b.pages) : ∀ (rest : List Block) (i : Nat) (out : Int),f.drop i = rest → (∀ (k : Nat) c,k < i → f[k]? = some c → partB c.pages = false) →
  (0 ≤ out → ∃ b,f[out.toNat]? = some b ∧ cleanN b.pages ≠ 0) → (out < 0 → ∀ (k : Nat) c,k < i → f[k]? = some c → cleanN c.pages = 0) →
  ((openScan f i out rest).2 = true → ∃ b,f[(openScan f i out rest).1.toNat]? = some b ∧ cleanN b.pages ≠ 0 ∧ (partB b.pages = true ∨ ∀ c ∈ f,partB c.pages = false)) ∧
  ((openScan f i out rest).2 = false → ∀ c ∈ f,cleanN c.pages = 0):=by
 intro rest
 induction rest with
 | nil =>
  intro i out hd hp h1 h2
  have hi : f.length ≤ i:=List.drop_eq_nil_iff.1 hd
  have hall : ∀ {c : Block},c ∈ f → ∃ k,k < i ∧ f[k]? = some c:=by
   intro c hc
   obtain ⟨k,hk,rfl⟩:=List.mem_iff_getElem.1 hc
   exact ⟨k,by omega,List.getElem?_eq_getElem hk⟩
  simp only [openScan]
  refine ⟨fun ho=>?_,fun ho c hc=>?_⟩
  ·have ho' : 0 ≤ out:=by simpa using ho
   obtain ⟨b,hb,hc⟩:=h1 ho'
   refine ⟨b,?_,hc,.inr fun c hc=>by obtain ⟨k,hk,he⟩:=hall hc;exact hp k c hk he⟩
   split
   ·exact hb
   ·rw [show out = 0 by omega] at hb;exact hb
  ·have ho' : out < 0:=by simpa using ho
   obtain ⟨k,hk,he⟩:=hall hc
   exact h2 ho' k c hk he
 | cons b rest ih =>
  intro i out hd hp h1 h2
  have hil : i < f.length:=by
   refine Decidable.byContradiction fun hn=>?_
   rw [List.drop_eq_nil_of_le (by omega)] at hd;cases hd
  rw [List.drop_eq_getElem_cons hil] at hd
  have hb : f[i] = b:=(List.cons.inj hd).1
  have hr : f.drop (i + 1) = rest:=(List.cons.inj hd).2
  have hbi : f[i]? = some b:=by rw [List.getElem?_eq_getElem hil,hb]
  rw [openScan]
  by_cases hc : 0 < cleanN b.pages ∧ cleanN b.pages < 4
  ·rw [if_pos hc]
   exact ⟨fun _=>⟨b,by simpa using hbi,by omega,.inl (by unfold partB;simp [hc.1,hc.2])⟩,fun h=>(by cases h)⟩
  ·rw [if_neg hc]
   have h0:=hf b (List.mem_of_getElem? hbi)
   refine ih (i + 1) _ hr (fun k c hk he=>?_) (fun ho=>?_) (fun ho k c hk he=>?_)
   ·by_cases hki : k = i
    ·subst hki
     rw [hbi] at he;obtain rfl:=Option.some.inj he
     unfold partB;simpa using hc
    ·exact hp k c (by omega) he
   ·unfold openStep at ho ⊢
    split at ho
    ·rename_i hcc
     rw [if_pos hcc]
     exact ⟨b,by simpa using hbi,by omega⟩
    ·rename_i hcc
     rw [if_neg hcc]
     exact h1 ho
   ·unfold openStep at ho
    split at ho
    ·omega
    ·rename_i hcc
     by_cases hki : k = i
     ·subst hki
      rw [hbi] at he;obtain rfl:=Option.some.inj he
      have : ¬ 0 < cleanN b.pages:=fun h=>hcc ⟨h,.inl ho⟩
      omega
     ·exact h2 ho k c (by omega) he
theorem openB_yes {f : List Block} (h : Ord f) (ho : (openB f).2 = true) : Openable f (openB f).1.toNat:=by
 have hf : ∀ b ∈ f,0 ≤ cleanN b.pages:=fun b hb=>(blockB_free (h.ok.blocks b hb)).2.2.1
 obtain ⟨b,hb,hc,hp⟩:=(openScan_spec hf f 0 (-1) rfl (fun k _ hk=>absurd hk (Nat.not_lt_zero _)) (fun h=>absurd h (by decide)) (fun _ k _ hk=>absurd hk (Nat.not_lt_zero _))).1 ho
 refine ⟨⟨b,hb,hc⟩,fun k c hk he=>?_⟩
 rcases hp with hp | hp
 ·exact ((h.pair _ k b c hb he (Ne.symm hk)).2 hp).1
 ·exact hp c (List.mem_of_getElem? he)
theorem openB_no {f : List Block} (h : FlashOk f) (ho : (openB f).2 = false) : ∀ b ∈ f,cleanN b.pages = 0:=by
 have hf : ∀ b ∈ f,0 ≤ cleanN b.pages:=fun b hb=>(blockB_free (h.blocks b hb)).2.2.1
 exact (openScan_spec hf f 0 (-1) rfl (fun k _ hk=>absurd hk (Nat.not_lt_zero _)) (fun h=>absurd h (by decide)) (fun _ k _ hk=>absurd hk (Nat.not_lt_zero _))).2 ho
end Go.Bu
namespace Go.Bu
open Go
theorem WF.set {f : List Block} {i : Nat} {b b' : Block} (hb : f[i]? = some b) {P : Rec → Prop} (hW : ∀ q,W b' q ↔ W b q ∨ P q) (q : Rec) : WF (f.set i b') q ↔ WF f q ∨ P q:=by
 obtain ⟨hi,rfl⟩:=List.getElem?_eq_some_iff.1 hb
 constructor
 ·rintro ⟨c,hc,hq⟩
  rcases mem_set hc with hc | rfl
  ·exact .inl ⟨c,hc,hq⟩
  ·rcases (hW q).1 hq with hq | hq
   ·exact .inl ⟨_,List.getElem_mem hi,hq⟩
   ·exact .inr hq
 ·have hs : b' ∈ f.set i b':=List.mem_iff_getElem.2 ⟨i,by simpa using hi,List.getElem_set_self (by simpa using hi)⟩
  rintro (⟨c,hc,hq⟩ | hq)
  ·obtain ⟨k,hk,rfl⟩:=List.mem_iff_getElem.1 hc
   by_cases hki : i = k
   ·subst hki;exact ⟨b',hs,(hW q).2 (.inl hq)⟩
   ·exact ⟨f[k],List.mem_iff_getElem.2 ⟨k,by simpa using hk,by rw [List.getElem_set_ne hki]⟩,hq⟩
  ·exact ⟨b',hs,(hW q).2 (.inr hq)⟩
theorem WF.gone {f : List Block} {i : Nat} {b' : Block} (hW : ∀ q,¬ W b' q) (q : Rec) : WF (f.set i b') q ↔ ∃ (k : Nat) (c : Block),k ≠ i ∧ f[k]? = some c ∧ W c q:=by
 constructor
 ·rintro ⟨c,hc,hq⟩
  obtain ⟨k,hk,rfl⟩:=List.mem_iff_getElem.1 hc
  by_cases hki : i = k
  ·subst hki;rw [List.getElem_set_self] at hq;exact absurd hq (hW q)
  ·rw [List.getElem_set_ne hki] at hq
   exact ⟨k,_,Ne.symm hki,List.getElem?_eq_getElem (by simpa using hk),hq⟩
 ·rintro ⟨k,c,hki,hk,hq⟩
  obtain ⟨hkl,rfl⟩:=List.getElem?_eq_some_iff.1 hk
  exact ⟨f[k],List.mem_iff_getElem.2 ⟨k,by simpa using hkl,by rw [List.getElem_set_ne (Ne.symm hki)]⟩,hq⟩
theorem last_write {f : List Block} (h : FlashOk f) {i : Nat} {b : Block} (hb : f[i]? = some b) (hc : cleanN b.pages ≠ 0) {r : Rec} (hr : recOkB r = true) (hnew : ∀ n ∈ seqs f,n < r.seq) (a : Int) :
  last (writeF f i r true) a = last f a ∧ last (writeF f i r false) a = if a = r.addr then r else last f a:=by
 have hi4 : i < 4:=by have:=(List.getElem?_eq_some_iff.1 hb).1;have:=h.len;omega
 have hw:=fun t=>write_get (r:=r) h hb hc (fun hs=>by have:=hnew _ hs;omega) t
 constructor
 ·have hok:=h.write hi4 hr true
  obtain ⟨b',e,_,hW⟩:=hw true
  rw [e] at hok ⊢
  refine last_same h hok (fun q=>?_) a
  rw [WF.set hb hW q]
  constructor
  ·exact .inl
  ·rintro (h | ⟨h,_⟩)
   ·exact h
   ·cases h
 ·have hok:=h.write hi4 hr false
  obtain ⟨b',e,_,hW⟩:=hw false
  rw [e] at hok ⊢
  have hWF:=WF.set hb hW
  by_cases ha : a = r.addr
  ·rw [if_pos ha]
   refine last_eq hok ((hWF r).2 (.inr ⟨rfl,rfl⟩)) ha.symm fun q hq _=>?_
   rcases (hWF q).1 hq with hq | ⟨_,rfl⟩
   ·have:=hnew _ hq.seq;omega
   ·omega
  ·rw [if_neg ha]
   rcases last_spec h a with ⟨h1,h2⟩ | ⟨h1,h2,_,h3⟩
   ·rw [h1]
    refine last_none hok fun q hq=>?_
    rcases (hWF q).1 hq with hq | ⟨_,rfl⟩
    ·exact h2 q hq
    ·exact Ne.symm ha
   ·refine last_eq hok ((hWF _).2 (.inl h1)) h2 fun q hq hqa=>?_
    rcases (hWF q).1 hq with hq | ⟨_,rfl⟩
    ·exact h3 q hq hqa
    ·exact absurd hqa.symm ha
theorem oldScan_spec {f : List Block} : ∀ (rest : List Block) (i out : Nat),f.drop i = rest → (∃ b,f[out]? = some b) → (∀ (k : Nat) c,k < i → f[k]? = some c → most ((f[out]?.map (·.pages)).getD []) ≤ most c.pages) →
  ∀ c ∈ f,most ((f[oldScan f i out rest]?.map (·.pages)).getD []) ≤ most c.pages:=by
 intro rest
 induction rest with
 | nil =>
  intro i out hd hb h c hc
  obtain ⟨k,hk,rfl⟩:=List.mem_iff_getElem.1 hc
  have hi : f.length ≤ i:=List.drop_eq_nil_iff.1 hd
  exact h k _ (by omega) (List.getElem?_eq_getElem hk)
 | cons b rest ih =>
  intro i out hd hb h
  have hil : i < f.length:=by
   refine Decidable.byContradiction fun hn=>?_
   rw [List.drop_eq_nil_of_le (by omega)] at hd;cases hd
  rw [List.drop_eq_getElem_cons hil] at hd
  have hbe : f[i] = b:=(List.cons.inj hd).1
  have hr : f.drop (i + 1) = rest:=(List.cons.inj hd).2
  have hbi : f[i]? = some b:=by rw [List.getElem?_eq_getElem hil,hbe]
  rw [oldScan]
  by_cases hlt : most b.pages < most ((f[out]?.map (·.pages)).getD [])
  ·rw [if_pos hlt]
   refine ih (i + 1) i hr ⟨b,hbi⟩ fun k c hk he=>?_
   rw [hbi]
   by_cases hki : k = i
   ·subst hki;rw [hbi] at he;obtain rfl:=Option.some.inj he;exact Int.le_refl _
   ·have h1:=h k c (by omega) he
    have h2 : most ((Option.map (·.pages) (some b)).getD []) = most b.pages:=rfl
    rw [h2];omega
  ·rw [if_neg hlt]
   refine ih (i + 1) out hr hb fun k c hk he=>?_
   by_cases hki : k = i
   ·subst hki;rw [hbi] at he;obtain rfl:=Option.some.inj he;omega
   ·exact h k c (by omega) he
theorem old_least {f : List Block} (h0 : 0 < f.length) : ∀ c ∈ f,most (blockAt f (old f)).pages ≤ most c.pages:=by
 have hk:=oldScan_spec (f:=f) (f.drop 1) 1 0 rfl ⟨f[0],List.getElem?_eq_getElem h0⟩ (fun k c hk he=>by
  obtain rfl : k = 0:=by omega
  rw [he];exact Int.le_refl _)
 intro c hc
 have h1:=hk c hc
 unfold blockAt
 have e : ((f[old f]?).getD ⟨[],0⟩).pages = ((f[old f]?.map (·.pages)).getD []):=by cases f[old f]? <;> rfl
 rw [e];exact h1
theorem Ord.elder {f : List Block} (h : Ord f) {b : Block} (hb : f[old f]? = some b) {k : Nat} {c : Block} (hk : f[k]? = some c) (hki : k ≠ old f) : ∀ m ∈ pseqs b.pages,∀ n ∈ pseqs c.pages,m < n:=by
 have h0 : 0 < f.length:=by have:=h.ok.len;omega
 have hm:=old_least h0 c (List.mem_of_getElem? hk)
 have e : blockAt f (old f) = b:=by unfold blockAt;rw [hb];rfl
 rw [e] at hm
 obtain ⟨b1,b2,b3⟩:=most_spec (h.ok.pg (List.mem_of_getElem? hb))
 obtain ⟨c1,c2,c3⟩:=most_spec (h.ok.pg (List.mem_of_getElem? hk))
 intro m hmm n hn
 have hne : m ≠ n:=fun e=>by subst e;exact h.ok.one_block hb hk (Ne.symm hki) hmm hn
 rcases (h.pair (old f) k b c hb hk (Ne.symm hki)).1 with h1 | h1
 ·exfalso
  have hc:=c2 (by have:=c1 n hn;omega)
  have h2:=h1 m hmm _ hc
  have h3:=(b1 m hmm).2
  have : m = most c.pages:=by omega
  rw [← this] at hc
  exact h.ok.one_block hb hk (Ne.symm hki) hmm hc
 ·have:=h1 m hmm n hn;omega
theorem last_wipe {f : List Block} (h : Ord f) (hp : ∀ b ∈ f,partB b.pages = false) (hw : (blockAt f (old f)).worn < 200) (t : Bool) (a : Int) :
  (W (blockAt f (old f)) (last f a) ∧ last (wipeF f (old f) t) a = rec0) ∨ (¬ W (blockAt f (old f)) (last f a) ∧ last (wipeF f (old f) t) a = last f a):=by
 have hol:=old_lt (f:=f) (by have:=h.ok.len;omega)
 have hb : f[old f]? = some f[old f]:=List.getElem?_eq_getElem hol
 rw [blockAt_get hol] at hw ⊢
 have hok:=h.ok.wipe (i:=old f) (by have:=h.ok.len;omega) t
 obtain ⟨b',e,_,h2,_,_⟩:=wipe_get (f:=f) hol (by rw [blockAt_get hol];exact hw) t
 rw [e] at hok ⊢
 have hWF:=WF.gone (f:=f) (i:=old f) h2
 have hsub : ∀ q,WF (f.set (old f) b') q → WF f q:=fun q hq=>by
  obtain ⟨k,c,_,hk,hq⟩:=(hWF q).1 hq
  exact ⟨c,List.mem_of_getElem? hk,hq⟩
 rcases last_spec h.ok a with ⟨h1,h2⟩ | ⟨h1,h2,h0,h3⟩
 ·right
  refine ⟨fun hW=>?_,?_⟩
  ·rw [h1] at hW
   have:=recOkB_iff.1 (hW.ok h.ok (List.getElem_mem hol))
   exact absurd this.2.1.1 (by decide)
  ·rw [h1];exact last_none hok fun q hq=>h2 q (hsub q hq)
 ·by_cases hW : W f[old f] (last f a)
  ·left
   refine ⟨hW,last_none hok fun q hq hqa=>?_⟩
   obtain ⟨k,c,hki,hk,hq'⟩:=(hWF q).1 hq
   have:=h3 q (hsub q hq) hqa
   have:=h.elder hb hk hki _ hW.seq _ hq'.seq
   omega
  ·right
   refine ⟨hW,last_eq hok ?_ h2 fun q hq hqa=>h3 q (hsub q hq) hqa⟩
   obtain ⟨c,hc,hq⟩:=h1
   obtain ⟨k,hk,rfl⟩:=List.mem_iff_getElem.1 hc
   refine (hWF _).2 ⟨k,_,?_,List.getElem?_eq_getElem hk,hq⟩
   rintro rfl;exact hW hq
structure DiskOk (r : Rec) (d : Int) : Prop where
 val : 0 ≤ d ∧ d ≤ 9
 told : 0 < r.seq → r.kind = 2 → r.val = d
structure SOk (s : Store) : Prop where
 ord : Ord s.flash
 len : s.disk.length = 6
 disk : ∀ (n : Nat) d,s.disk[n]? = some d → DiskOk (last s.flash ((n : Int) + 1)) d
theorem badDisk_iff {r : Rec} {d : Int} : badDisk r d = false ↔ DiskOk r d:=by
 unfold badDisk
 rw [Bool.or_eq_false_iff,Bool.not_eq_false',inB_iff]
 constructor
 ·rintro ⟨h1,h2⟩
  refine ⟨h1,fun h3 h4=>?_⟩
  rw [decide_eq_true h3,h4] at h2
  simpa using h2
 ·rintro ⟨h1,h2⟩
  refine ⟨h1,?_⟩
  by_cases h3 : 0 < r.seq
  ·by_cases h4 : r.kind = 2
   ·rw [h2 h3 h4];simp
   ·simp [h4]
  ·simp [h3]
theorem diskScan_iff (f : List Block) : ∀ (ds : List Int) (k : Nat),diskScan f k ds = true ↔ ∀ (j : Nat) d,ds[j]? = some d → DiskOk (last f (((k + j : Nat) : Int) + 1)) d
 | [],k=>by simp [diskScan]
 | d :: ds,k=>by
  rw [diskScan]
  constructor
  ·intro h j x hj
   cases hb : badDisk (last f ((k : Int) + 1)) d
   ·rw [if_neg (by rw [hb];simp)] at h
    cases j with
    | zero =>
     obtain rfl : d = x:=by simpa using hj
     exact badDisk_iff.1 hb
    | succ j =>
     have:=(diskScan_iff f ds (k + 1)).1 h j x (by simpa using hj)
     rwa [show k + 1 + j = k + (j + 1) by omega] at this
   ·rw [if_pos hb] at h;cases h
  ·intro h
   have h0:=h 0 d rfl
   rw [if_neg (by rw [Bool.not_eq_true];exact badDisk_iff.2 h0)]
   refine (diskScan_iff f ds (k + 1)).2 fun j x hj=>?_
   have:=h (j + 1) x (by simpa using hj)
   rwa [show k + (j + 1) = k + 1 + j by omega] at this
theorem storeOk_iff {s : Store} : storeOkB s = true ↔ SOk s:=by
 unfold storeOkB
 rw [Bool.and_eq_true,Bool.and_eq_true,order_iff,beq_iff_eq,diskScan_iff]
 constructor
 ·rintro ⟨⟨h1,h2⟩,h3⟩
  exact ⟨h1,h2,fun n d hd=>by have:=h3 n d hd;rwa [Nat.zero_add] at this⟩
 ·rintro ⟨h1,h2,h3⟩
  exact ⟨⟨h1,h2⟩,fun n d hd=>by rw [Nat.zero_add];exact h3 n d hd⟩
def Safe : Store → List Step → Prop
 | s,[]=>SOk s
 | s,x :: xs=>SOk s ∧ SOk (doStep s x true) ∧ Safe (doStep s x false) xs
theorem Safe.here : ∀ {xs : List Step} {s : Store},Safe s xs → SOk s
 | [],_,h=>h
 | _ :: _,_,h=>h.1
theorem Safe.to : ∀ {xs : List Step} {s : Store},Safe s xs → ∀ (n : Nat) (t : Bool),SOk (if t = true ∧ n < xs.length then doStep (doAll s (xs.take n)) ((xs[n]?).getD ⟨0,0,0,0,rec0⟩) true else doAll s (xs.take n))
 | [],s,h,n,t=>by simp only [List.length_nil,Nat.not_lt_zero,and_false,if_false,List.take_nil];exact h
 | x :: xs,s,h,0,t=>by
  cases t
  ·exact h.1
  ·exact h.2.1
 | x :: xs,s,h,n + 1,t=>by
  have:=Safe.to h.2.2 n t
  simp only [List.length_cons,Nat.succ_lt_succ_iff,List.take_succ_cons,List.getElem?_cons_succ]
  exact this
theorem Safe.toSteps {xs : List Step} {s : Store} (h : Safe s xs) (cut : Int) (t : Bool) : SOk (toSteps s xs cut t):=by
 unfold Bu.toSteps
 have:=h.to cut.toNat t
 by_cases hc : 0 ≤ cut
 ·by_cases hl : cut.toNat < xs.length
  ·have e : decide (cut < (xs.length : Int)) = true:=decide_eq_true (by omega)
   rw [e,decide_eq_true hc]
   cases t
   ·rw [if_neg (by simp)] at this ⊢;exact this
   ·rw [if_pos ⟨rfl,hl⟩] at this
    rw [if_pos (show (true && true && true) = true from rfl)];exact this
  ·have e : decide (cut < (xs.length : Int)) = false:=decide_eq_false (by omega)
   rw [e,if_neg (by simp)]
   rw [if_neg (fun h=>hl h.2)] at this;exact this
 ·rw [decide_eq_false hc,if_neg (by simp),show cut.toNat = 0 by omega]
  exact h.here
theorem Safe.all {xs : List Step} {s : Store} (h : Safe s xs) : SOk (doAll s xs):=by
 have:=h.toSteps xs.length false
 rwa [toSteps_all] at this
theorem SOk.write {s : Store} (h : SOk s) {i : Nat} (ho : Openable s.flash i) {r : Rec} (hr : recOkB r = true) (hnew : ∀ n ∈ seqs s.flash,n < r.seq) (hv : r.kind = 2 → s.disk.getD (r.addr - 1).toNat 0 = r.val) (t : Bool) : SOk ⟨writeF s.flash i r t,s.disk⟩:=by
 obtain ⟨b,hb,hc⟩:=ho.at_
 refine ⟨h.ord.write ho hr hnew t,h.len,fun n d hd=>?_⟩
 have hd0:=h.disk n d hd
 obtain ⟨l1,l2⟩:=last_write h.ord.ok hb hc hr hnew ((n : Int) + 1)
 cases t
 ·show DiskOk (last (writeF s.flash i r false) ((n : Int) + 1)) d
  rw [l2]
  split
  ·rename_i ha
   refine ⟨hd0.val,fun _ hk=>?_⟩
   have:=hv hk
   rw [← ha,show ((n : Int) + 1 - 1).toNat = n by omega,List.getD_eq_getElem?_getD,hd] at this
   exact this.symm
  ·exact hd0
 ·show DiskOk (last (writeF s.flash i r true) ((n : Int) + 1)) d
  rw [l1];exact hd0
theorem SOk.wipe {s : Store} (h : SOk s) (hp : ∀ b ∈ s.flash,partB b.pages = false) (hw : (blockAt s.flash (old s.flash)).worn < 200) (t : Bool) : SOk ⟨wipeF s.flash (old s.flash) t,s.disk⟩:=by
 refine ⟨h.ord.wipe (old_lt (by have:=h.ord.ok.len;omega)) hp t,h.len,fun n d hd=>?_⟩
 have hd0:=h.disk n d hd
 show DiskOk (last (wipeF s.flash (old s.flash) t) ((n : Int) + 1)) d
 rcases last_wipe h.ord hp hw t ((n : Int) + 1) with ⟨_,e⟩ | ⟨_,e⟩
 ·rw [e];exact ⟨hd0.val,fun h=>absurd h (by decide)⟩
 ·rw [e];exact hd0
theorem SOk.tell {s : Store} (h : SOk s) {a v : Int} (ha : 1 ≤ a ∧ a ≤ 6) (hv : 0 ≤ v ∧ v ≤ 9) (hl : (last s.flash a).kind = 1) : SOk ⟨s.flash,s.disk.set (a - 1).toNat v⟩:=by
 refine ⟨h.ord,by simp [h.len],fun n d hd=>?_⟩
 rw [List.getElem?_set] at hd
 split at hd
 ·rename_i e
  split at hd
  ·obtain rfl:=Option.some.inj hd
   refine ⟨hv,fun _ hk=>?_⟩
   have : (n : Int) + 1 = a:=by omega
   rw [this,hl] at hk;exact absurd hk (by decide)
  ·cases hd
 ·exact h.disk n d hd
def Told (s : Store) (kind addr val : Int) : Prop:=kind = 2 → s.disk.getD (addr - 1).toNat 0 = val ∧ (0 < (last s.flash addr).seq → (last s.flash addr).val = val)
theorem recEq_iff {a b : Rec} : recEq a b = true ↔ a = b:=by
 unfold recEq
 simp only [Bool.and_eq_true,beq_iff_eq]
 obtain ⟨a1,a2,a3,a4⟩:=a;obtain ⟨b1,b2,b3,b4⟩:=b
 simp only [Rec.mk.injEq,and_assoc]
theorem safe_tell {s : Store} (h : SOk s) {x : Step} (h1 : x.kind = 1) (ha : 1 ≤ x.addr ∧ x.addr ≤ 6) (hv : 0 ≤ x.val ∧ x.val ≤ 9) (hl : (last s.flash x.addr).kind = 1) : doStep s x true = s ∧ doStep s x false = ⟨s.flash,s.disk.set (x.addr - 1).toNat x.val⟩ ∧ SOk (doStep s x false):=by
 have e : doStep s x false = ⟨s.flash,s.disk.set (x.addr - 1).toNat x.val⟩:=by unfold doStep;rw [if_pos h1];rfl
 exact ⟨by unfold doStep;rw [if_pos h1];rfl,e,by rw [e];exact h.tell ha hv hl⟩
theorem safe_room {f : List Block} (kind addr val : Int) (hadd : 1 ≤ addr) (rest : List Step) : ∀ (ds : List Step),(∀ x ∈ ds,x.kind = 1 ∧ (1 ≤ x.addr ∧ x.addr ≤ 6) ∧ (0 ≤ x.val ∧ x.val ≤ 9) ∧ (last f x.addr).kind = 1 ∧ 0 < (last f x.addr).seq ∧ (last f x.addr).val = x.val) →
  ∀ s : Store,s.flash = f → SOk s → Told s kind addr val → (∀ s' : Store,s'.flash = f → SOk s' → Told s' kind addr val → Safe s' rest) → Safe s (ds ++ rest)
 | [],_,s,hs,h,ht,hk=>hk s hs h ht
 | x :: ds,hx,s,hs,h,ht,hk=>by
  obtain ⟨h1,ha,hv,hl,h0,hlv⟩:=hx x (by simp)
  rw [← hs] at hl h0 hlv
  obtain ⟨e1,e2,h2⟩:=safe_tell h h1 ha hv hl
  show SOk s ∧ SOk (doStep s x true) ∧ Safe (doStep s x false) (ds ++ rest)
  refine ⟨h,by rw [e1];exact h,safe_room kind addr val hadd rest ds (fun y hy=>hx y (by simp [hy])) _ (by rw [e2];exact hs) h2 ?_ hk⟩
  rw [e2]
  intro hkd
  obtain ⟨t1,t2⟩:=ht hkd
  refine ⟨?_,t2⟩
  show (s.disk.set (x.addr - 1).toNat x.val).getD (addr - 1).toNat 0 = val
  rw [List.getD_eq_getElem?_getD,List.getElem?_set]
  rw [List.getD_eq_getElem?_getD] at t1
  split
  ·rename_i e
   split
   ·by_cases hadr : x.addr = addr
    ·rw [hadr] at h0 hlv
     have:=t2 h0
     show x.val = val
     omega
    ·omega
   ·rename_i hl2
    have:=h.len;omega
  ·exact t1
theorem safe_write {s : Store} (h : SOk s) (kind addr val : Int) (ht : Told s kind addr val) : Safe s (writeSteps s.flash kind addr val):=by
 unfold writeSteps
 split
 ·rename_i hc
  rw [Bool.and_eq_true] at hc
  obtain ⟨hc1,hr⟩:=hc
  have hrr:=recOkB_iff.1 hr
  have hnew : ∀ n ∈ seqs s.flash,n < (⟨kind,next s.flash,addr,val⟩ : Rec).seq:=by
   intro n hn
   obtain ⟨b,hb,p,hp,h1,rfl⟩:=mem_seqs.1 hn
   have:=maxSeq_ge h.ord.ok ⟨b,hb,p,hp,h1,rfl⟩
   show _ < next s.flash
   unfold next;omega
  unfold room at hc1 ⊢
  by_cases ho : (openB s.flash).2 = true
  ·rw [if_pos ho]
   have hop:=openB_yes h.ord ho
   have hv : (⟨kind,next s.flash,addr,val⟩ : Rec).kind = 2 → s.disk.getD ((⟨kind,next s.flash,addr,val⟩ : Rec).addr - 1).toNat 0 = (⟨kind,next s.flash,addr,val⟩ : Rec).val:=fun hk=>(ht hk).1
   exact ⟨h,h.write hop hr hnew hv true,h.write hop hr hnew hv false⟩
  ·rw [if_neg ho] at hc1 ⊢
   have ho' : (openB s.flash).2 = false:=by simpa using ho
   have hno:=openB_no h.ord.ok ho'
   have hp : ∀ b ∈ s.flash,partB b.pages = false:=fun b hb=>part_no (hno b hb)
   have hw : (blockAt s.flash (old s.flash)).worn < 200:=by simpa using hc1
   have hol:=old_lt (f:=s.flash) (by have:=h.ord.ok.len;omega)
   have hb : s.flash[old s.flash]? = some s.flash[old s.flash]:=List.getElem?_eq_getElem hol
   rw [List.append_assoc]
   refine safe_room (f:=s.flash) kind addr val hrr.2.2.1.1 _ _ (fun x hx=>?_) s rfl h ht fun s' hs h' ht'=>?_
   ·obtain ⟨p,hp,hm⟩:=List.mem_flatMap.1 hx
    unfold roomOne at hm
    split at hm
    ·rename_i hcc
     obtain rfl:=List.mem_singleton.1 hm
     have hl:=hcc.1
     simp only [liveP,Bool.and_eq_true,beq_iff_eq,recEq_iff] at hl
     have hok:=recOkB_iff.1 (liveP_ok h.ord.ok (blockAt_mem hol) hp hl.1)
     have e : last s.flash (diskStepOf p).addr = p.r:=hl.2
     exact ⟨rfl,hok.2.2.1,hok.2.2.2,by rw [e];exact hcc.2,by rw [e];omega,by rw [e];rfl⟩
    ·cases hm
   ·obtain ⟨b',e,h1,h2,h3,h4⟩:=wipe_get (f:=s.flash) hol hw false
    have d2 : ∀ t,doStep s' ⟨2,0,0,(old s.flash : Int),rec0⟩ t = ⟨wipeF s'.flash (old s'.flash) t,s'.disk⟩:=fun t=>by rw [hs];show (⟨wipeF s'.flash ((old s.flash : Int)).toNat t,s'.disk⟩ : Store) = _;rw [Int.toNat_natCast,hs]
    have hp' : ∀ b ∈ s'.flash,partB b.pages = false:=by rw [hs];exact hp
    have hw' : (blockAt s'.flash (old s'.flash)).worn < 200:=by rw [hs];exact hw
    have k2:=h'.wipe hp' hw' false
    rw [← d2] at k2
    refine ⟨h',by rw [d2];exact h'.wipe hp' hw' true,?_⟩
    have hfl : (doStep s' ⟨2,0,0,(old s.flash : Int),rec0⟩ false).flash = s.flash.set (old s.flash) b':=by rw [d2,hs];exact e
    have hdk : (doStep s' ⟨2,0,0,(old s.flash : Int),rec0⟩ false).disk = s'.disk:=by rw [d2]
    generalize doStep s' ⟨2,0,0,(old s.flash : Int),rec0⟩ false = s2 at *
    have hsub : ∀ n ∈ seqs s2.flash,n ∈ seqs s.flash:=by
     intro n hn
     obtain ⟨c,hcm,hcn⟩:=mem_seqs.1 hn
     rw [hfl] at hcm
     rcases mem_set hcm with hcm | rfl
     ·exact mem_seqs.2 ⟨c,hcm,hcn⟩
     ·obtain ⟨p,hp,q1,q2⟩:=hcn
      exact absurd ⟨p,hp,q1,rfl⟩ (h2 p.r)
    have hop : Openable s2.flash (old s.flash):=by
     rw [hfl]
     refine ⟨⟨b',by rw [List.getElem?_set_self hol],h4 rfl⟩,fun k c hk hkc=>?_⟩
     rw [List.getElem?_set_ne (Ne.symm hk)] at hkc
     exact hp c (List.mem_of_getElem? hkc)
    have hv : (⟨kind,next s.flash,addr,val⟩ : Rec).kind = 2 → s2.disk.getD ((⟨kind,next s.flash,addr,val⟩ : Rec).addr - 1).toNat 0 = (⟨kind,next s.flash,addr,val⟩ : Rec).val:=fun hk=>by rw [hdk];exact (ht' hk).1
    have hnew2 : ∀ n ∈ seqs s2.flash,n < (⟨kind,next s.flash,addr,val⟩ : Rec).seq:=fun n hn=>hnew n (hsub n hn)
    exact ⟨k2,k2.write hop hr hnew2 hv true,k2.write hop hr hnew2 hv false⟩
 ·exact h
theorem safe_flush {s : Store} (h : SOk s) {n : Nat} (hn : n < 6) : Safe s (flushSteps s n):=by
 unfold flushSteps
 split
 ·rename_i hd
  split
  ·exact h
  ·unfold dirtyB at hd
   rw [Bool.and_eq_true,decide_eq_true_eq,beq_iff_eq] at hd
   have hv : readN s n = (last s.flash ((n : Int) + 1)).val:=by unfold readN;rw [if_pos hd.1]
   have hok : recOkB (last s.flash ((n : Int) + 1)) = true:=by
    rcases last_spec h.ord.ok ((n : Int) + 1) with ⟨e,_⟩ | ⟨hW,_⟩
    ·rw [e] at hd;exact absurd hd.1 (by decide)
    ·exact hW.ok h.ord.ok
   have hr:=recOkB_iff.1 hok
   obtain ⟨e1,e2,h2⟩:=safe_tell h (x:=⟨1,(n : Int) + 1,readN s n,0,rec0⟩) rfl (by dsimp only;omega) (by dsimp only;rw [hv];exact hr.2.2.2) hd.2
   refine ⟨h,by rw [e1];exact h,?_⟩
   have hfl : (doStep s ⟨1,(n : Int) + 1,readN s n,0,rec0⟩ false).flash = s.flash:=by rw [e2]
   rw [← hfl]
   refine safe_write h2 _ _ _ fun _=>?_
   rw [hfl,e2]
   refine ⟨?_,fun _=>hv.symm⟩
   show (s.disk.set ((n : Int) + 1 - 1).toNat (readN s n)).getD ((n : Int) + 1 - 1).toNat 0 = readN s n
   rw [List.getD_eq_getElem?_getD,List.getElem?_set_self (by have:=h.len;omega)]
   rfl
 ·exact h
theorem safe_fill {s : Store} (h : SOk s) (n : Nat) : Safe s (fillSteps s n):=by
 unfold fillSteps
 split
 ·exact h
 ·rename_i h0
  refine safe_write h _ _ _ fun _=>⟨?_,fun h1=>absurd h1 h0⟩
  rw [show ((n : Int) + 1 - 1).toNat = n by omega]
theorem safe_addr {s : Store} (h : SOk s) {g : Nat → List Step} (hg : ∀ n,n < 6 → Safe s (g n)) (a : Int) : Safe s (addrStep g a):=by
 unfold addrStep
 split
 ·rename_i hc;have:=inB_iff.1 hc;exact hg _ (by omega)
 ·exact h
theorem safe_put {s : Store} (h : SOk s) (a v : Int) : Safe s (writeSteps s.flash 1 a v):=safe_write h 1 a v fun h=>absurd h (by decide)
theorem safe_play {s : Store} (h : SOk s) (e : Event) : Safe s (playSteps s e):=by
 unfold playSteps putSteps
 split
 ·exact safe_put h _ _
 ·split
  ·exact safe_addr h (fun n hn=>safe_flush h hn) _
  ·split
   ·exact safe_addr h (fun n _=>safe_fill h n) _
   ·exact h
theorem storeOk_flush {s : Store} (h : storeOkB s = true) {n : Nat} (hn : n < 6) : storeOkB (allStep s n) = true:=storeOk_iff.2 (safe_flush (storeOk_iff.1 h) hn).all
theorem storeOk_playAll {s : Store} (h : storeOkB s = true) : storeOkB (playAllS s) = true:=
 foldl_inv allStep (fun s=>storeOkB s = true) addrs6 s h fun s n hn hs=>storeOk_flush hs (by simp [addrs6] at hn;omega)
theorem storeOk_play {s : Store} (h : storeOkB s = true) (e : Event) : storeOkB (playDoS s e) = true:=by
 unfold playDoS
 split
 ·exact storeOk_playAll h
 ·split
  ·exact h
  ·exact storeOk_iff.2 ((safe_play (storeOk_iff.1 h) e).toSteps _ _)
theorem storeOk_putTo {s : Store} (h : storeOkB s = true) (a v cut : Int) (t : Bool) : storeOkB (toSteps s (writeSteps s.flash 1 a v) cut t) = true:=storeOk_iff.2 ((safe_put (storeOk_iff.1 h) a v).toSteps cut t)
theorem storeOk_new : storeOkB newStore = true:=by decide +kernel
end Go.Bu
namespace Go.Bu
open Go Go.RowKit Go.Plan Go.Proofs
theorem pOk_iff {p : Pair} : pairOkB p = true ↔ (0 ≤ p.lost ∧ p.lost ≤ 2) ∧ storeOkB p.A = true ∧ storeOkB p.B = true:=by
 unfold pairOkB;simp only [Bool.and_eq_true,inB_iff]
theorem sOk_set {s : Store} (h : storeOkB s = true) (a v : Int) : storeOkB (setV s a v) = true:=storeOk_iff.2 (safe_put (storeOk_iff.1 h) a v).all
theorem sOk_same {fr t : Store} (h : storeOkB t = true) : storeOkB (sameV fr t) = true:=foldl_inv (sameStep fr) (fun s=>storeOkB s = true) addrs6 t h fun s n _ hs=>by
 unfold sameStep;split
 ·exact hs
 ·exact sOk_set hs _ _
theorem pOk_new : pairOkB ⟨newStore,newStore,0⟩ = true:=pOk_iff.2 ⟨⟨by dsimp only;omega,by dsimp only;omega⟩,storeOk_new,storeOk_new⟩
theorem sOk_list {s : Store} (h : storeOkB s = true) (c : Prop) [Decidable c] (a v cut : Int) (t : Bool) : storeOkB (toSteps s (if c then [] else writeSteps s.flash 1 a v) cut t) = true:=by
 split
 ·have h0 : Safe s []:=storeOk_iff.1 h
  exact storeOk_iff.2 (h0.toSteps cut t)
 ·exact storeOk_putTo h a v cut t
theorem pOk_put {p : Pair} (h : pairOkB p = true) (addr val cut : Int) (torn : Bool) : pairOkB (putV p addr val cut torn) = true:=by
 obtain ⟨h0,hA,hB⟩:=pOk_iff.1 h
 refine pOk_iff.2 ⟨h0,sOk_list hA (p.lost = 1) addr val cut torn,?_⟩
 unfold putV
 dsimp only
 split
 ·exact sOk_list hB (p.lost = 2) addr val _ torn
 ·exact hB
theorem pOk_mend {p : Pair} (h : pairOkB p = true) : pairOkB (mendV p) = true:=by
 obtain ⟨h0,hA,hB⟩:=pOk_iff.1 h
 unfold mendV
 rw [if_pos h]
 split
 ·exact pOk_iff.2 ⟨⟨by dsimp only;omega,by dsimp only;omega⟩,hA,sOk_same hB⟩
 ·exact h
theorem pOk_back {p : Pair} (h : pairOkB p = true) : pairOkB (backV p) = true:=by
 obtain ⟨h0,hA,hB⟩:=pOk_iff.1 h
 unfold backV
 rw [if_pos h]
 split
 ·exact pOk_iff.2 ⟨⟨by dsimp only;omega,by dsimp only;omega⟩,sOk_same hA,hB⟩
 ·split
  ·exact pOk_iff.2 ⟨⟨by dsimp only;omega,by dsimp only;omega⟩,hA,sOk_same hB⟩
  ·exact pOk_iff.2 ⟨⟨by dsimp only;omega,by dsimp only;omega⟩,hA,hB⟩
theorem pOk_lose {p : Pair} (h : pairOkB p = true) {which : Int} (hw : 1 ≤ which ∧ which ≤ 2) : pairOkB (pairLoseV p which) = true:=by
 obtain ⟨h0,hA,hB⟩:=pOk_iff.1 h
 unfold pairLoseV
 rw [if_pos ⟨h,hw⟩]
 split
 ·split
  ·exact pOk_iff.2 ⟨⟨by dsimp only;omega,by dsimp only;omega⟩,storeOk_new,hB⟩
  ·exact pOk_iff.2 ⟨⟨by dsimp only;omega,by dsimp only;omega⟩,hA,storeOk_new⟩
 ·exact h
def PairS (w : World) (a b : SC) (p : Pair) : Prop:=OwnS a w p.A ∧ OwnS b w p.B ∧ ∀ x ∈ a.L,x ∉ b.L
theorem PairS.chg {w w' : World} {a b : SC} {p : Pair} {L : List Nat} (h : PairS w a b p) (hx : Chg L w w') (hL : ∀ x ∈ a.L ++ b.L,x ∉ L) : PairS w' a b p:=
 ⟨h.1.chg hx fun x hm=>hL x (List.mem_append_left _ hm),h.2.1.chg hx fun x hm=>hL x (List.mem_append_right _ hm),h.2.2⟩
theorem PairS.ext {w w' : World} {a b : SC} {p : Pair} (h : PairS w a b p) (hx : Ext w w') : PairS w' a b p:=⟨h.1.ext hx,h.2.1.ext hx,h.2.2⟩
theorem PairS.lt {w : World} {a b : SC} {p : Pair} (h : PairS w a b p) : ∀ x ∈ a.L ++ b.L,x < w.heap.size:=fun x hm=>(List.mem_append.1 hm).elim (h.1.lt x) (h.2.1.lt x)
theorem PairS.of {w : World} {f d g e : Value} {p : Pair} {L K : List Nat} (hA : OwnStore w f d p.A L) (hB : OwnStore w g e p.B K) (hn : (L ++ K).Nodup) (h : pairOkB p = true) :
  ∃ a b : SC,a.L = L ∧ b.L = K ∧ f = a.f4 ∧ d = a.d6 ∧ g = b.f4 ∧ e = b.d6 ∧ PairS w a b p:=by
 obtain ⟨_,hokA,hokB⟩:=pOk_iff.1 h
 have hn':=List.nodup_append.1 hn
 obtain ⟨a,rfl,h1,h2,h3⟩:=hA.at4 hn'.1 (storeOk_P hokA)
 obtain ⟨b,rfl,h4,h5,h6⟩:=hB.at4 hn'.2.1 (storeOk_P hokB)
 exact ⟨a,b,rfl,rfl,h1,h2,h4,h5,h3,h6,fun x hx hy=>hn'.2.2 x hx x hy rfl⟩
theorem PairO.s {base : Nat} {w : World} {v : Value} {p : Pair} (h : PairO base w v p) (hok : pairOkB p = true) : ∃ a b : SC,v = pv a b p.lost ∧ PairS w a b p ∧ ∀ x ∈ a.L ++ b.L,base ≤ x:=by
 rcases h with ⟨_,rfl⟩ | ⟨f,d,g,e,L,K,rfl,h1,h2,h3,h4,_⟩
 ·exact absurd hok (by decide)
 ·obtain ⟨a,b,rfl,rfl,rfl,rfl,rfl,rfl,hS⟩:=PairS.of h1 h2 h3 hok
  exact ⟨a,b,rfl,hS,h4⟩
theorem PairS.v {w : World} {a b : SC} {p : Pair} (h : PairS w a b p) (hok : pairOkB p = true) : StoreV w a.f4 a.d6 p.A ∧ StoreV w b.f4 b.d6 p.B ∧ Small p.A ∧ Small p.B:=by
 obtain ⟨_,hokA,hokB⟩:=pOk_iff.1 hok
 have hA:=storeOk_P hokA
 have hB:=storeOk_P hokB
 exact ⟨h.1.at4 hA,h.2.1.at4 hB,by
  have:=hA.shape4;exact ⟨by rw [this.flash];omega,fun b hb=>by rw [this.pages b hb];omega,by rw [this.disk];omega⟩,by
  have:=hB.shape4;exact ⟨by rw [this.flash];omega,fun b hb=>by rw [this.pages b hb];omega,by rw [this.disk];omega⟩⟩
end Go.Bu
namespace Go.Bu
open Go Go.RowKit Go.Plan Go.Proofs
set_option maxRecDepth 20000 in
set_option maxHeartbeats 4000000 in
theorem specPairLose_c (f d g e : Value) (p : Pair) (which : Int) (w : World) (hA : StoreV w f d p.A) (hB : StoreV w g e p.B) (hsA : Small p.A) (hsB : Small p.B) :
  Calls Tryz.prog 23 #[.agg #[f,d,g,e,.int .i64 p.lost],.int .i64 which] w (PairΦ w (pairLoseV p which)):=by
 have hPO:=fun (w' : World) (hx : Ext w w')=>specPairOk_c f d g e p w' (hA.ext hx) (hB.ext hx) hsA.1 hsB.1
 have hTW:=fun (w' : World) (hx : Ext w w') (h1 : Shape4 p.A) (h2 : Shape4 p.B)=>l23Copy_c f d g e p w' (hA.ext hx) (hB.ext hx) h1.flash h1.pages h1.disk h2.flash h2.pages h2.disk
 unfold pairLoseV
 obtain ⟨a1,n1,rfl⟩:=hA.1.form
 obtain ⟨a2,n2,rfl⟩:=hA.2.form
 obtain ⟨a3,n3,rfl⟩:=hB.1.form
 obtain ⟨a4,n4,rfl⟩:=hB.2.form
 clear hA hB hsA hsB
 have hIN : inB which 1 2 = decide (1 ≤ which ∧ which ≤ 2):=by
  cases h : inB which 1 2 with
  | true=>simp [inB_iff.1 h]
  | false=>symm;rw [decide_eq_false_iff_not];intro h2;rw [inB_iff.2 h2] at h;cases h
 by_cases hok : pairOkB p = true
 ·obtain ⟨hl,hokA,hokB⟩:=pairOk_iff.1 hok
  have hSA:=storeOk_shape hokA
  have hSB:=storeOk_shape hokB
  have HSA:=Lib.hid hSA
  have HSB:=Lib.hid hSB
  have hTw:=fun (w' : World) (hx : Ext w w')=>hTW w' hx hSA hSB
  rw [hok] at hPO
  simp only [hok,true_and]
  clear hTW hok hokA hokB hSA hSB
  by_cases h1 : 1 ≤ which ∧ which ≤ 2
  ·rw [if_pos h1]
   rw [decide_eq_true h1] at hIN
   obtain ⟨h1,h2⟩:=h1
   by_cases h0 : p.lost = 0
   ·rw [if_pos h0]
    rw [h0] at hTw hPO ⊢
    by_cases hw1 : which = 1
    ·subst hw1
     rw [if_pos rfl]
     go_enter Tryz.func23,Tryz.ntmps23
     go_wp2_with fail
     refine (hPO _ (ext_alloc (ext_alloc (ext_refl _) _) _)).mono ?_;rintro e1 w1 ⟨rfl,hx1⟩
     have X1:=ext_trans (ext_alloc (ext_alloc (ext_refl w) _) _) hx1
     have G0:=keep_ext hx1 (hg_alloc (hg_new (b:=w.heap.size) rfl))
     have G1:=keep_ext hx1 (hg_new (b:=w.heap.size + 1) (by simp))
     obtain ⟨g0,gf0⟩:=cellsK G0
     obtain ⟨g1,gf1⟩:=cellsK G1
     have lw2:=heap_lt G1
     clear hPO hx1
     go_wp2_with (go_at_call 44;refine (l6In_c _ _ _ _).mono ?_;rw [hIN];rintro e w' ⟨rfl,rfl⟩)
     refine (hTw _ X1).mono ?_;rintro e2 w2 ⟨f1,d1,g2,e2,L,K,rfl,hx2,hO1,hO2,hn,hb⟩
     have X2:=ext_trans X1 hx2
     have s1:=X1.size
     have hlL:=hO1.lt
     have hlK:=hO2.lt
     obtain ⟨q1,m1,c1,q2,m2,c2,rfl,rfl⟩:=hO1.forms
     obtain ⟨q3,m3,c3,q4,m4,c4,rfl,rfl⟩:=hO2.forms
     replace G1:=keep_ext hx2 G1
     have HO1:=Lib.hid hO1
     have HO2:=Lib.hid hO2
     have HN:=Lib.hid hn
     have HBb:=Lib.hid hb
     have HlL:=Lib.hid hlL
     have HlK:=Lib.hid hlK
     have lw1:=heap_lt G0
     clear G0 g0 gf0 g1 gf1 hTw hx2 hO1 hO2 hn hb hlL hlK
     obtain ⟨g1,gf1⟩:=cellsK G1
     have lg1:=heap_lt G1
     go_wp2_with fail
     refine (specStoreNew_c _).mono ?_;rintro e3 w3 ⟨f3,d3,M,rfl,hx3,hOM,hnM,hbM⟩
     obtain ⟨r1,k1,j1,r2,k2,j2,rfl,rfl⟩:=hOM.forms
     have X23 : Ext w2 w3:=ext_trans (ext_alloc (ext_refl _) _) hx3
     have X3:=ext_trans X2 X23
     have G5:=keep_ext hx3 (hg_new (b:=w2.heap.size) rfl)
     replace G1:=keep_ext X23 G1
     have HBM : Hid (∀ b ∈ M,w2.heap.size < b):=Lib.hid (fun b hb=>by have:=hbM b hb;simp at this;omega)
     have HOM:=Lib.hid hOM
     have HNM:=Lib.hid hnM
     have HOO:=Lib.hid (HO2.out.ext X23)
     have s3:=X23.size
     clear g1 gf1 hOM hnM hbM hx3 HO1 HO2
     obtain ⟨g5,gf5⟩:=cellsK G5
     obtain ⟨g1,gf1⟩:=cellsK G1
     have l5:=heap_lt G5
     have lg3:=heap_lt G1
     have lne : ¬ (w.heap.size + 1 = w2.heap.size):=by omega
     go_wp2_with fail
     refine bodyPost_ret (v:=.agg #[.slice r1 k1 j1,.slice r2 k2 j2,.slice q3 m3 c3,.slice q4 m4 c4,.int .i64 1]) (by simp [results,Tryz.results23,go_sem,g1,gf1]) rfl ⟨_,rfl,?_,.inr ⟨_,_,_,_,M,K,rfl,?_,?_,?_,?_,newShape4,HSB.out⟩⟩
     ·((repeat (first | with_reducible (refine ext_set2 ?_ ?_);focus (first | exact Nat.le_refl _ | (dsimp only;omega) | (simp;omega)) | with_reducible refine ext_alloc2 ?_));with_reducible exact X3)
     ·
      refine HOM.out.keep fun b hb=>?_
      have:=HBM.out b hb
      iterate 8 rw [setCell_other (by omega)]
     ·
      refine HOO.out.keep fun b hb=>?_
      have:=HBb.out b (by simp [hb])
      have:=HlK.out b hb
      iterate 8 rw [setCell_other (by omega)]
     ·
      have hnd:=HN.out
      rw [List.nodup_append] at hnd ⊢
      exact ⟨HNM.out,hnd.2.1,fun x hx y hy e=>by have:=HBM.out x hx;have:=HlK.out y hy;omega⟩
     ·
      intro b hb
      rcases List.mem_append.1 hb with hb | hb
      ·have:=HBM.out b hb;omega
      ·have:=HBb.out b (by simp [hb]);omega
    ·obtain rfl : which = 2:=by omega
     rw [if_neg hw1]
     go_enter Tryz.func23,Tryz.ntmps23
     go_wp2_with fail
     refine (hPO _ (ext_alloc (ext_alloc (ext_refl _) _) _)).mono ?_;rintro e1 w1 ⟨rfl,hx1⟩
     have X1:=ext_trans (ext_alloc (ext_alloc (ext_refl w) _) _) hx1
     have G0:=keep_ext hx1 (hg_alloc (hg_new (b:=w.heap.size) rfl))
     have G1:=keep_ext hx1 (hg_new (b:=w.heap.size + 1) (by simp))
     obtain ⟨g0,gf0⟩:=cellsK G0
     obtain ⟨g1,gf1⟩:=cellsK G1
     have lw2:=heap_lt G1
     clear hPO hx1
     go_wp2_with (go_at_call 44;refine (l6In_c _ _ _ _).mono ?_;rw [hIN];rintro e w' ⟨rfl,rfl⟩)
     refine (hTw _ X1).mono ?_;rintro e2 w2 ⟨f1,d1,g2,e2,L,K,rfl,hx2,hO1,hO2,hn,hb⟩
     have X2:=ext_trans X1 hx2
     have s1:=X1.size
     have hlL:=hO1.lt
     have hlK:=hO2.lt
     obtain ⟨q1,m1,c1,q2,m2,c2,rfl,rfl⟩:=hO1.forms
     obtain ⟨q3,m3,c3,q4,m4,c4,rfl,rfl⟩:=hO2.forms
     replace G1:=keep_ext hx2 G1
     have HO1:=Lib.hid hO1
     have HO2:=Lib.hid hO2
     have HN:=Lib.hid hn
     have HBb:=Lib.hid hb
     have HlL:=Lib.hid hlL
     have HlK:=Lib.hid hlK
     have lw1:=heap_lt G0
     clear G0 g0 gf0 g1 gf1 hTw hx2 hO1 hO2 hn hb hlL hlK
     obtain ⟨g1,gf1⟩:=cellsK G1
     have lg1:=heap_lt G1
     go_wp2_with fail
     refine (specStoreNew_c _).mono ?_;rintro e3 w3 ⟨f3,d3,M,rfl,hx3,hOM,hnM,hbM⟩
     obtain ⟨r1,k1,j1,r2,k2,j2,rfl,rfl⟩:=hOM.forms
     have X23 : Ext w2 w3:=ext_trans (ext_alloc (ext_refl _) _) hx3
     have X3:=ext_trans X2 X23
     have G5:=keep_ext hx3 (hg_new (b:=w2.heap.size) rfl)
     replace G1:=keep_ext X23 G1
     have HBM : Hid (∀ b ∈ M,w2.heap.size < b):=Lib.hid (fun b hb=>by have:=hbM b hb;simp at this;omega)
     have HOM:=Lib.hid hOM
     have HNM:=Lib.hid hnM
     have HOO:=Lib.hid (HO1.out.ext X23)
     have s3:=X23.size
     clear g1 gf1 hOM hnM hbM hx3 HO1 HO2
     obtain ⟨g5,gf5⟩:=cellsK G5
     obtain ⟨g1,gf1⟩:=cellsK G1
     have l5:=heap_lt G5
     have lg3:=heap_lt G1
     have lne : ¬ (w.heap.size + 1 = w2.heap.size):=by omega
     go_wp2_with fail
     refine bodyPost_ret (v:=.agg #[.slice q1 m1 c1,.slice q2 m2 c2,.slice r1 k1 j1,.slice r2 k2 j2,.int .i64 2]) (by simp [results,Tryz.results23,go_sem,g1,gf1]) rfl ⟨_,rfl,?_,.inr ⟨_,_,_,_,L,M,rfl,?_,?_,?_,?_,HSA.out,newShape4⟩⟩
     ·((repeat (first | with_reducible (refine ext_set2 ?_ ?_);focus (first | exact Nat.le_refl _ | (dsimp only;omega) | (simp;omega)) | with_reducible refine ext_alloc2 ?_));with_reducible exact X3)
     ·
      refine HOO.out.keep fun b hb=>?_
      have:=HBb.out b (by simp [hb])
      have:=HlL.out b hb
      iterate 8 rw [setCell_other (by omega)]
     ·
      refine HOM.out.keep fun b hb=>?_
      have:=HBM.out b hb
      iterate 8 rw [setCell_other (by omega)]
     ·
      have hnd:=HN.out
      rw [List.nodup_append] at hnd ⊢
      exact ⟨hnd.1,HNM.out,fun x hx y hy e=>by have:=HlL.out x hx;have:=HBM.out y hy;omega⟩
     ·
      intro b hb
      rcases List.mem_append.1 hb with hb | hb
      ·have:=HBb.out b (by simp [hb]);omega
      ·have:=HBM.out b hb;omega
   ·rw [if_neg h0]
    have h0p : 0 < p.lost:=by omega
    go_enter Tryz.func23,Tryz.ntmps23
    go_wp2_with fail
    refine (hPO _ (ext_alloc (ext_alloc (ext_refl _) _) _)).mono ?_;rintro e1 w1 ⟨rfl,hx1⟩
    have X1:=ext_trans (ext_alloc (ext_alloc (ext_refl w) _) _) hx1
    have G0:=keep_ext hx1 (hg_alloc (hg_new (b:=w.heap.size) rfl))
    have G1:=keep_ext hx1 (hg_new (b:=w.heap.size + 1) (by simp))
    obtain ⟨g0,gf0⟩:=cellsK G0
    obtain ⟨g1,gf1⟩:=cellsK G1
    have lw2:=heap_lt G1
    clear hPO hx1
    go_wp2_with (go_at_call 44;refine (l6In_c _ _ _ _).mono ?_;rw [hIN];rintro e w' ⟨rfl,rfl⟩)
    refine (hTw _ X1).mono ?_;rintro e2 w2 ⟨f1,d1,g2,e2,L,K,rfl,hx2,hO1,hO2,hn,hb⟩
    have X2:=ext_trans X1 hx2
    have s1:=X1.size
    have hlL:=hO1.lt
    have hlK:=hO2.lt
    obtain ⟨q1,m1,c1,q2,m2,c2,rfl,rfl⟩:=hO1.forms
    obtain ⟨q3,m3,c3,q4,m4,c4,rfl,rfl⟩:=hO2.forms
    replace G1:=keep_ext hx2 G1
    have HO1:=Lib.hid hO1
    have HO2:=Lib.hid hO2
    have HN:=Lib.hid hn
    have HBb:=Lib.hid hb
    have HlL:=Lib.hid hlL
    have HlK:=Lib.hid hlK
    have lw1:=heap_lt G0
    clear G0 g0 gf0 g1 gf1 hTw hx2 hO1 hO2 hn hb hlL hlK
    obtain ⟨g1,gf1⟩:=cellsK G1
    have lg1:=heap_lt G1
    go_wp2_with fail
    refine bodyPost_ret (v:=.agg #[.slice q1 m1 c1,.slice q2 m2 c2,.slice q3 m3 c3,.slice q4 m4 c4,.int .i64 p.lost]) (by simp [results,Tryz.results23,go_sem,g1,gf1,lg1]) rfl ⟨_,rfl,?_,.inr ⟨_,_,_,_,L,K,rfl,?_,?_,?_,?_,HSA.out,HSB.out⟩⟩
    ·((repeat (first | with_reducible (refine ext_set2 ?_ ?_);focus (first | exact Nat.le_refl _ | (dsimp only;omega) | (simp;omega)) | with_reducible refine ext_alloc2 ?_));with_reducible exact X2)
    ·refine HO1.out.keep fun b hb=>?_
     have:=HBb.out b (by simp [hb])
     have:=HlL.out b hb
     rw [alloc_get_old (by simp only [setCell_size];omega)]
     iterate 5 rw [setCell_other (by omega)]
    ·refine HO2.out.keep fun b hb=>?_
     have:=HBb.out b (by simp [hb])
     have:=HlK.out b hb
     rw [alloc_get_old (by simp only [setCell_size];omega)]
     iterate 5 rw [setCell_other (by omega)]
    ·exact HN.out
    ·exact fun b hb=>by have:=HBb.out b hb;omega
  ·rw [if_neg h1]
   rw [decide_eq_false h1] at hIN
   go_enter Tryz.func23,Tryz.ntmps23
   go_wp2_with fail
   refine (hPO _ (ext_alloc (ext_alloc (ext_refl _) _) _)).mono ?_;rintro e1 w1 ⟨rfl,hx1⟩
   have X1:=ext_trans (ext_alloc (ext_alloc (ext_refl w) _) _) hx1
   have G0:=keep_ext hx1 (hg_alloc (hg_new (b:=w.heap.size) rfl))
   have G1:=keep_ext hx1 (hg_new (b:=w.heap.size + 1) (by simp))
   obtain ⟨g0,gf0⟩:=cellsK G0
   obtain ⟨g1,gf1⟩:=cellsK G1
   have lw2:=heap_lt G1
   clear hPO hx1
   go_wp2_with (go_at_call 44;refine (l6In_c _ _ _ _).mono ?_;rw [hIN];rintro e w' ⟨rfl,rfl⟩)
   refine bodyPost_ret (v:=nilPair) (by simp [results,Tryz.results23,go_sem,g1,gf1,nilPair]) rfl ⟨_,rfl,?_,.inl ⟨rfl,rfl⟩⟩
   ((repeat (first | with_reducible (refine ext_set2 ?_ ?_);focus (first | exact Nat.le_refl _ | (dsimp only;omega) | (simp;omega)) | with_reducible refine ext_alloc2 ?_));with_reducible exact X1)
 ·rw [Bool.not_eq_true] at hok
  rw [hok] at hPO
  rw [if_neg (by rw [hok];simp)]
  go_enter Tryz.func23,Tryz.ntmps23
  go_wp2_with fail
  refine (hPO _ (ext_alloc (ext_alloc (ext_refl _) _) _)).mono ?_;rintro e1 w1 ⟨rfl,hx1⟩
  have X1:=ext_trans (ext_alloc (ext_alloc (ext_refl w) _) _) hx1
  have G0:=keep_ext hx1 (hg_alloc (hg_new (b:=w.heap.size) rfl))
  have G1:=keep_ext hx1 (hg_new (b:=w.heap.size + 1) (by simp))
  obtain ⟨g0,gf0⟩:=cellsK G0
  obtain ⟨g1,gf1⟩:=cellsK G1
  have lw2:=heap_lt G1
  clear hPO hx1
  go_wp2_with (go_at_call 44;refine (l6In_c _ _ _ _).mono ?_;rw [hIN];rintro e w' ⟨rfl,rfl⟩)
  refine bodyPost_ret (v:=nilPair) (by simp [results,Tryz.results23,go_sem,g1,gf1,nilPair]) rfl ⟨_,rfl,?_,.inl ⟨rfl,rfl⟩⟩
  ((repeat (first | with_reducible (refine ext_set2 ?_ ?_);focus (first | exact Nat.le_refl _ | (dsimp only;omega) | (simp;omega)) | with_reducible refine ext_alloc2 ?_));with_reducible exact X1)
end Go.Bu
namespace Go.Bu
open Go Go.RowKit Go.Plan Go.Proofs
theorem sets5 {w : World} {B : Nat} {c : Array Value} {T : TypeId} (h : w.heap[B]? = some (.cells c T (0,0))) (hc : c.size = 5) (x0 x1 x2 x3 x4 : Value) :
  ∃ w8,((((w.setCell ⟨B,0,none⟩ x0).setCell ⟨B,1,none⟩ x1).setCell ⟨B,2,none⟩ x2).setCell ⟨B,3,none⟩ x3).setCell ⟨B,4,none⟩ x4 = w8 ∧ w8.heap[B]? = some (.cells #[x0,x1,x2,x3,x4] T (0,0)) ∧ Chg [B] w w8:=by
 refine ⟨_,rfl,?_,?_⟩
 ·obtain ⟨cs⟩:=c
  match cs,hc with
  | [_,_,_,_,_],_=>exact hgo (hg_here (hg_here (hg_here (hg_here (hg_here h))))) rfl
 ·exact ((((((Chg.refl _ _).set (p:=⟨B,0,none⟩) (.inl (by simp)) _).set (p:=⟨B,1,none⟩) (.inl (by simp)) _).set (p:=⟨B,2,none⟩) (.inl (by simp)) _).set (p:=⟨B,3,none⟩) (.inl (by simp)) _).set (p:=⟨B,4,none⟩) (.inl (by simp)) _)
theorem sets2 {w : World} {B : Nat} {x0 x1 x2 x3 x4 : Value} {T : TypeId} (h : w.heap[B]? = some (.cells #[x0,x1,x2,x3,x4] T (0,0))) (y0 y1 : Value) :
  ∃ w8,(w.setCell ⟨B,0,none⟩ y0).setCell ⟨B,1,none⟩ y1 = w8 ∧ w8.heap[B]? = some (.cells #[y0,y1,x2,x3,x4] T (0,0)) ∧ Chg [B] w w8:=
 ⟨_,rfl,hgo (hg_here (hg_here h)) rfl,((Chg.refl _ _).set (p:=⟨B,0,none⟩) (.inl (by simp)) _).set (p:=⟨B,1,none⟩) (.inl (by simp)) _⟩
def PairD (N : Nat) (v : Value) (w : World) : Prop:=∃ (a b : SC) (p : Pair),v = .agg #[a.fv p.A,a.dv p.A,b.fv p.B,b.dv p.B,.int .i64 p.lost] ∧ OwnS a w p.A ∧ OwnS b w p.B ∧ (∀ x ∈ a.L,x ∉ b.L) ∧ (∀ x ∈ a.L ++ b.L,N ≤ x) ∧ Small p.A ∧ Small p.B
set_option maxRecDepth 20000 in
set_option maxHeartbeats 4000000 in
theorem l72Pair_c (R K : Nat) (w : World) (h : Rk w R (K + (420 + 1 + 1 + 57 * 7) + 1 + 8 * 36 + 1)) :
  Calls Tryz.prog 35 #[.pointer (some ⟨R,0,none⟩)] w (DrawV R K w (PairD w.heap.size)):=by
 have hR:=h.lt
 have HK:=h;clear h
 have C:=Chg.refl [R] w
 go_enter Tryz.func35,Tryz.ntmps35
 go_wp2_with fail
 refine (specPairNew_c _).mono ?_;rintro e1 w1 ⟨f,d,g,e,L,M,rfl,hx1,hO1,hO2,hn,hb⟩
 have s1:=hx1.size
 simp at s1
 obtain ⟨a0,b0,rfl,rfl,rfl,rfl,rfl,rfl,hS⟩:=PairS.of (p:=⟨newStore,newStore,0⟩) hO1 hO2 hn pOk_new
 have hbd : ∀ x ∈ a0.L ++ b0.L,w.heap.size < x ∧ x < w1.heap.size:=fun x hm=>⟨by have:=hb x hm;simp at this;omega,hS.lt x hm⟩
 have HBD : Hid (∀ x ∈ a0.L ++ b0.L,w.heap.size < x ∧ x ≠ w1.heap.size):=Lib.hid fun x hm=>⟨(hbd x hm).1,by have:=(hbd x hm).2;omega⟩
 replace C:=C.then_sets (Chg.of_ext hx1) (by ((repeat (first | with_reducible (refine Chg.set2 ?_ ?_);focus (exact Or.inr (by dsimp only;omega)) | with_reducible refine Chg.alloc2 ?_));with_reducible exact C))
 replace HK:=Rk.ext (by ((repeat (first | (with_reducible apply Rk.set2;focus (dsimp only;omega)) | with_reducible apply Rk.alloc2));with_reducible exact HK)) hx1
 have G2:=keep_ext hx1 (hg_new (b:=w.heap.size) rfl)
 have l2:=heap_lt G2
 have HOK : Hid (pairOkB ⟨newStore,newStore,0⟩ = true):=Lib.hid pOk_new
 obtain ⟨q,hq⟩ : ∃ q : Store,newStore = q:=⟨_,rfl⟩
 rw [hq] at hS HOK
 have HS:=Lib.hid hS
 clear hq hx1 hO1 hO2 hn hb hbd hS
 go_wp2_with fail
 refine (pick_k R 36 _ (by ((repeat (first | (with_reducible apply Rk.set2;focus (dsimp only;omega)) | with_reducible apply Rk.alloc2));with_reducible exact HK))).mono ?_;rintro e2 w2 ⟨r,rfl,hr0,hr1,hC,HK1⟩
 replace C:=C.then_sets hC (by ((repeat (first | with_reducible (refine Chg.set2 ?_ ?_);focus (exact Or.inr (by dsimp only;omega)) | with_reducible refine Chg.alloc2 ?_));with_reducible exact C))
 replace HK:=HK1;clear HK1
 replace G2:=hC.keep (b:=w.heap.size) (by (repeat (first | with_reducible apply hg_here | (with_reducible apply hg_set;focus (dsimp only;omega)) | with_reducible apply hg_alloc));with_reducible exact G2) (by simp;omega)
 have G3:=hC.keep (b:=w1.heap.size) (hg_new rfl) (by simp;omega)
 replace HS:=Lib.hid (((HS.out.ext (ext_alloc (ext_refl _) _))).chg hC fun x hm hm2=>by have:=HBD.out x hm;simp at hm2;omega)
 obtain ⟨n0,rfl⟩ : ∃ n : Nat,r = n:=⟨r.toNat,by omega⟩
 have hn36:=hr1 (by omega)
 clear hC hr1 hr0
 go_wp2_with fail
 go_loopw [4] (fun y wr=>∃ (n : Nat) (p : Pair) (a b : SC),y = .int .i64 n ∧ n ≤ 36 ∧ Chg [R] w wr ∧ Hid (PairS wr a b p) ∧ Hid (pairOkB p = true) ∧ Hid (∀ x ∈ a.L ++ b.L,w.heap.size < x ∧ x ≠ w1.heap.size) ∧ Rk wr R (K + (420 + 1 + 1 + 57 * 7) + 1 + 8 * n) ∧
  wr.heap[w.heap.size]? = some (.cells #[.slice none 0 0,.slice none 0 0,.slice none 0 0,.slice none 0 0,.int .i64 0] 28 (0,0)) ∧ wr.heap[w1.heap.size]? = some (.cells #[a.f4,a.d6,b.f4,b.d6,.int .i64 p.lost] 28 (0,0))) (fun y _=>(intOf y).toNat)
 case atStart=>exact ⟨n0,⟨q,q,0⟩,a0,b0,rfl,by omega,C,HS,HOK,HBD,HK.less (by omega),G2,G3⟩
 case round =>
  clear C HS HOK HBD HK G2 G3
  obtain ⟨n,p,a,b,rfl,hn,C,HS,HOK,HBD,HK,G2,G3⟩:=hrel
  have l3:=heap_lt G3
  rcases n with _ | n
  ·obtain ⟨g3,gf3⟩:=cellsK G3
   have hpv:=HS.out.v HOK.out
   have HSM : Hid (Small p.A ∧ Small p.B):=Lib.hid hpv.2.2
   obtain ⟨HPA,HPB⟩ : StoreP p.A ∧ StoreP p.B:=by obtain ⟨_,h1,h2⟩:=pOk_iff.1 HOK.out;exact ⟨storeOk_P h1,storeOk_P h2⟩
   have hfB : b.fv p.B = b.f4:=by simp only [SC.fv,HPB.lens.1];rfl
   have hdB : b.dv p.B = b.d6:=by simp only [SC.dv,HPB.lens.2];rfl
   have hfin : ∀ (wr' : World) (z : Int),Chg [R] w wr' → PairS wr' a b p → Rk wr' R K → Hid (DrawV R K w (PairD w.heap.size) (.returned (.agg #[a.f4,a.d6,b.f4,b.d6,.int .i64 z])) wr'):=fun wr' z hC hS hK=>by
    have hfA : a.fv p.A = a.f4:=by simp only [SC.fv,HPA.lens.1];rfl
    have hdA : a.dv p.A = a.d6:=by simp only [SC.dv,HPA.lens.2];rfl
    exact Lib.hid ⟨_,rfl,hC,hK,a,b,⟨p.A,p.B,z⟩,by dsimp only;rw [hfA,hdA,hfB,hdB],hS.1,hS.2.1,hS.2.2,fun x hm=>by have:=HBD.out x hm;omega,HSM.out.1,HSM.out.2⟩
   have HFIN:=Lib.hid hfin
   have HFB:=Lib.hid (And.intro hfB hdB)
   clear hpv HPA HPB hfin hfB hdB g3 gf3
   go_wp2_with fail
   refine (pick_k R 30 _ (K:=K + (420 + 1 + 1 + 57 * 7)) (HK.less (by omega))).mono ?_;rintro e9 w9 ⟨q,rfl,hq0,hq1,hC,HK1⟩
   replace C:=C.trans hC
   replace HK:=HK1;clear HK1
   replace G2:=hC.keep G2 (by simp;omega)
   replace G3:=hC.keep G3 (by simp;omega)
   replace HS:=Lib.hid (HS.out.chg hC fun x hm hm2=>by have:=HBD.out x hm;simp at hm2;omega)
   have l3:=heap_lt G3
   clear hC hq1
   rcases (show q = 0 ∨ q = 1 ∨ 2 ≤ q by omega) with hq | hq | hq
   ·subst hq
    go_wp2_with fail
    refine (pick_k R 4 _ (K:=K + 420 + 1 + 57 * 7) ((HK.less (by omega)).ext (ext_alloc (ext_refl _) _))).mono ?_;rintro e10 w10 ⟨i,rfl,hi0,hi1,hC,HK1⟩
    obtain ⟨i,rfl⟩ : ∃ k : Nat,i = k:=⟨i.toNat,by omega⟩
    have hi4:=hi1 (by omega)
    have G57:=hC.keep (b:=w9.heap.size) (hg_new rfl) (by simp;omega)
    replace C:=(C.alloc _).trans hC
    replace HK:=HK1;clear HK1
    replace G2:=hC.keep (hg_alloc G2) (by simp;omega)
    replace G3:=hC.keep (hg_alloc G3) (by simp;omega)
    replace HS:=Lib.hid ((HS.out.ext (ext_alloc (ext_refl _) _)).chg hC fun x hm hm2=>by have:=HBD.out x hm;simp at hm2;omega)
    clear hC hi1
    obtain ⟨z,hz⟩:=four_int (-1) 3 1 2 (k:=i) (by omega)
    have k2 : w10.cell? ⟨w9.heap.size,i,none⟩ = some (.int .i64 z):=by rw [cell_block G57];exact hz
    obtain ⟨g30,gf30⟩:=cellsK G3
    obtain ⟨w11,hw11,G3n,hC11⟩ : ∃ w11,w10.setCell ⟨w1.heap.size,4,none⟩ (.int .i64 z) = w11 ∧ w11.heap[w1.heap.size]? = some (.cells #[a.f4,a.d6,b.f4,b.d6,.int .i64 z] 28 (0,0)) ∧ Chg [w1.heap.size] w10 w11:=
     ⟨_,rfl,hgo (hg_here G3) rfl,(Chg.refl _ _).set (p:=⟨w1.heap.size,4,none⟩) (.inl (by simp)) _⟩
    replace G3:=G3n
    replace G2:=hC11.keep G2 (by simp;omega)
    replace C:=C.then_new hC11 (fun x hx=>by simp at hx;omega)
    replace HK:=HK.chg hC11 (fun x hx=>by simp at hx;omega)
    replace HS:=Lib.hid (HS.out.chg hC11 fun x hm hm2=>(HBD.out x hm).2 (by simpa using hm2))
    clear G3n hz G57 hC11
    obtain ⟨g3,gf3⟩:=cellsK G3
    obtain ⟨g2,gf2⟩:=cellsK G2
    have l2:=heap_lt G2
    obtain ⟨w8,hw8,G28,hC8⟩:=sets5 G2 rfl a.f4 a.d6 b.f4 b.d6 (.int .i64 z)
    go_wp2_with fail
    try rw [hw8]
    replace C:=C.then_new hC8 (fun x hx=>by simp at hx;omega)
    replace HK:=HK.chg hC8 (fun x hx=>by simp at hx;omega)
    clear g2 gf2 hw8
    obtain ⟨g2,gf2⟩:=cellsK G28
    refine bodyPost_ret (v:=.agg #[a.f4,a.d6,b.f4,b.d6,.int .i64 z]) (by simp [results,Tryz.results35,go_sem,g2,gf2]) rfl ?_
    exact (HFIN.out _ z C (HS.out.chg hC8 fun x hm hm2=>by have:=HBD.out x hm;simp at hm2;omega) (HK.less (by omega))).out
   ·subst hq
    have HLT : Hid (∀ x ∈ b.L,x < w9.heap.size):=Lib.hid fun x hm=>HS.out.2.1.lt x hm
    go_wp2_with fail
    refine (l71Store_c R K _ (HK.less (by omega))).mono ?_;rintro e10 w10 ⟨v10,rfl,hC,HK1,c,s,rfl,OS,hL,hf,hp,hd⟩
    replace C:=C.trans hC
    replace HK:=HK1;clear HK1
    replace G2:=hC.keep G2 (by simp;omega)
    replace G3:=hC.keep G3 (by simp;omega)
    replace HS:=Lib.hid (HS.out.chg hC fun x hm hm2=>by have:=HBD.out x hm;simp at hm2;omega)
    have HOS:=Lib.hid OS
    have HL:=Lib.hid hL
    have HSS : Hid (Small s):=Lib.hid ⟨by omega,fun b hb=>by have:=hp b hb;omega,by omega⟩
    obtain ⟨g30,gf30⟩:=cellsK G3
    obtain ⟨w11,hw11,G3n,hC11⟩:=sets2 G3 (c.fv s) (c.dv s)
    replace G3:=G3n
    replace G2:=hC11.keep G2 (by simp;omega)
    replace C:=C.then_new hC11 (fun x hx=>by simp at hx;omega)
    replace HK:=HK.chg hC11 (fun x hx=>by simp at hx;omega)
    replace HS:=Lib.hid (HS.out.chg hC11 fun x hm hm2=>(HBD.out x hm).2 (by simpa using hm2))
    replace HOS:=Lib.hid (HOS.out.chg hC11 fun x hm hm2=>by have:=HL.out x hm;simp at hm2;omega)
    clear G3n hC hC11 OS hL hf hp hd
    obtain ⟨g3,gf3⟩:=cellsK G3
    obtain ⟨g2,gf2⟩:=cellsK G2
    have l2:=heap_lt G2
    obtain ⟨w8,hw8,G28,hC8⟩:=sets5 G2 rfl (c.fv s) (c.dv s) b.f4 b.d6 (.int .i64 p.lost)
    go_wp2_with fail
    try rw [hw8]
    replace C:=C.then_new hC8 (fun x hx=>by simp at hx;omega)
    replace HK:=HK.chg hC8 (fun x hx=>by simp at hx;omega)
    clear g2 gf2 hw8
    obtain ⟨g2,gf2⟩:=cellsK G28
    refine bodyPost_ret (v:=.agg #[(c.fv s),(c.dv s),b.f4,b.d6,.int .i64 p.lost]) (by simp [results,Tryz.results35,go_sem,g2,gf2]) rfl ?_
    refine ⟨_,rfl,C,HK.less (by omega),c,b,⟨s,p.B,p.lost⟩,by dsimp only;rw [HFB.out.1,HFB.out.2],HOS.out.chg hC8 fun x hm hm2=>by have:=HL.out x hm;simp at hm2;omega,(HS.out.2.1).chg hC8 fun x hm hm2=>by have:=HBD.out x (List.mem_append_right _ hm);simp at hm2;omega,fun x hm hm2=>by have:=HL.out x hm;have:=HLT.out x hm2;omega,fun x hm=>?_,HSS.out,HSM.out.2⟩
    rcases List.mem_append.1 hm with hm | hm
    ·have:=HL.out x hm;omega
    ·have:=HBD.out x (List.mem_append_right _ hm);omega
   ·have n0 : (q == 0) = false:=by simp;omega
    have n1 : (q == 1) = false:=by simp;omega
    obtain ⟨g3,gf3⟩:=cellsK G3
    obtain ⟨g2,gf2⟩:=cellsK G2
    have l2:=heap_lt G2
    obtain ⟨w8,hw8,G28,hC8⟩:=sets5 G2 rfl a.f4 a.d6 b.f4 b.d6 (.int .i64 p.lost)
    go_wp2_with fail
    try rw [hw8]
    replace C:=C.then_new hC8 (fun x hx=>by simp at hx;omega)
    replace HK:=HK.chg hC8 (fun x hx=>by simp at hx;omega)
    clear g2 gf2 hw8
    obtain ⟨g2,gf2⟩:=cellsK G28
    refine bodyPost_ret (v:=.agg #[a.f4,a.d6,b.f4,b.d6,.int .i64 p.lost]) (by simp [results,Tryz.results35,go_sem,g2,gf2]) rfl ?_
    exact (HFIN.out _ p.lost C (HS.out.chg hC8 fun x hm hm2=>by have:=HBD.out x hm;simp at hm2;omega) (HK.less (by omega))).out
  ·have hpos : (0 : Int) < ((n + 1 : Nat) : Int):=by omega
   go_wp2_with fail
   refine (pick_k R 6 _ (K:=K + (420 + 1 + 1 + 57 * 7) + 1 + 8 * n + 7) (HK.less (by omega))).mono ?_;rintro e2 w2 ⟨r,rfl,hr0,hr1,hC,HK1⟩
   replace C:=C.trans hC
   replace HK:=HK1;clear HK1
   replace G2:=hC.keep G2 (by simp;omega)
   replace G3:=hC.keep G3 (by simp;omega)
   replace HS:=Lib.hid (HS.out.chg hC fun x hm hm2=>by have:=HBD.out x hm;simp at hm2;omega)
   clear hC
   have l3:=heap_lt G3
   by_cases h0 : r = 0
   ·subst h0
    go_wp2_with fail
    refine (pick_k R 4 _ (K:=K + (420 + 1 + 1 + 57 * 7) + 1 + 8 * n + 6) (HK.less (by omega))).mono ?_;rintro e3 w3 ⟨r,rfl,hr0,hr1,hC,HK1⟩
    replace C:=C.trans hC
    replace HK:=HK1;clear HK1
    replace G2:=hC.keep G2 (by simp;omega)
    replace G3:=hC.keep G3 (by simp;omega)
    replace HS:=Lib.hid (HS.out.chg hC fun x hm hm2=>by have:=HBD.out x hm;simp at hm2;omega)
    clear hC
    have l3:=heap_lt G3
    have h99 : r < 99:=by have:=hr1 (by omega);omega
    go_wp2_with fail
    obtain ⟨g3,gf3⟩:=cellsK G3
    have hn3 : w1.heap.size ≠ R:=by omega
    refine wp_region_rd HK [2,5,8] [0,1,4,6,7,2,3,5,8,9] [] [10,11] (by kernel_rfl) (by kernel_rfl) ?late ?_
    case late=>exact fun f hf=>absurd hf List.not_mem_nil
    refine Rob.y (v:=?_) rfl rfl (fun w1 hx hH=>?_) ?_;rotate_left
    ·(obtain ⟨z3,zf3⟩:=cellsK (hx.keep G3 (by simp;omega)));go_simp;first | done | rfl
    simp only [Act.put,slA,slB,slC]
    iterate 4
     refine Rob.y (v:=?_) rfl rfl (fun w1 hx hH=>?_) ?_;rotate_left
     ·go_simp;first | done | rfl | exact (Bool.not_not _).symm
     simp only [Act.put,slA,slB,slC]
    refine Rob.pick (m:=6) rfl rfl rfl (by omega) (fun _ _ h hx=>h.trans hx) (fun w1 hx HK hH=>?_) (fun lo2 hi2 r2 hrl2 hru2 hlo2 hhi2=>?_)
    ·unfold RunTo;go_simp;exact (pick_k R _ _ HK).mono fun e w' h=>h.run
    simp only [Act.put,slA,slB,slC]
    refine Rob.y (v:=?_) rfl rfl (fun w1 hx hH=>?_) ?_;rotate_left
    ·go_simp;first | done | rfl | exact (Bool.not_not _).symm
    simp only [Act.put,slA,slB,slC]
    refine Rob.pick (m:=10) rfl rfl rfl (by omega) (fun _ _ h hx=>h.trans hx) (fun w1 hx HK hH=>?_) (fun lo5 hi5 r5 hrl5 hru5 hlo5 hhi5=>?_)
    ·unfold RunTo;go_simp;exact (pick_k R _ _ HK).mono fun e w' h=>h.run
    simp only [Act.put,slA,slB,slC]
    refine Rob.pick (m:=2) rfl rfl rfl (by omega) (fun _ _ h hx=>h.trans hx) (fun w1 hx HK hH=>?_) (fun lo8 hi8 r8 hrl8 hru8 hlo8 hhi8=>?_)
    ·unfold RunTo;go_simp;exact (pick_k R _ _ HK).mono fun e w' h=>h.run
    simp only [Act.put,slA,slB,slC]
    refine Rob.y (v:=?_) rfl rfl (fun w1 hx hH=>?_) ?_;rotate_left
    ·go_simp;first | done | rfl | exact (Bool.not_not _).symm
    simp only [Act.put,slA,slB,slC]
    refine fin_tailC (fun w6 hx6 HK6 _=>?_)
    simp only [dstOf,List.getElem?_cons_succ,List.getElem?_cons_zero,Option.bind_some,Act.put,slA,slB,slC,List.filterMap_cons,List.filterMap_nil]
    have hb2 : r2 < 6:=hru2 (by omega)
    have hb5 : r5 < 10:=hru5 (by omega)
    replace C:=C.trans hx6
    replace G2:=hx6.keep G2 (by simp;omega)
    replace G3:=hx6.keep G3 (by simp;omega)
    have hS6:=HS.out.chg hx6 fun x hm hm2=>by have:=HBD.out x hm;simp at hm2;omega
    obtain ⟨HPA,HPB⟩ : StoreP p.A ∧ StoreP p.B:=by obtain ⟨_,h1,h2⟩:=pOk_iff.1 HOK.out;exact ⟨storeOk_P h1,storeOk_P h2⟩
    have hcl:=fun (torn : Bool)=>l23Put_c a b p (1 + r2) r5 r torn w6 hS6.1 hS6.2.1 hS6.2.2 HPA HPB ⟨by omega,by omega⟩
    have hok:=fun (torn : Bool)=>pOk_put HOK.out (1 + r2) r5 r torn
    have hdis:=hS6.2.2
    clear hru2 hru5 HPA HPB hx6 hS6 HS HK g3 gf3
    clear HOK
    go_wp2_with fail
    refine (hcl _).mono ?_;rintro e7 w7 ⟨rfl,hC7,hA7,hB7⟩
    have hok7:=hok (r8 == 0)
    generalize putV p (1 + r2) r5 r (r8 == 0) = p7 at *
    have hS7 : PairS w7 a b p7:=⟨hA7,hB7,hdis⟩
    replace C:=C.then_new hC7 (fun x hx=>by have:=HBD.out x hx;omega)
    have HK7:=HK6.chg hC7 (fun x hx=>by have:=HBD.out x hx;omega)
    replace G2:=hC7.keep G2 (fun hm=>by have:=HBD.out _ hm;omega)
    replace G3:=hC7.keep G3 (fun hm=>(HBD.out _ hm).2 rfl)
    have HOK:=Lib.hid hok7
    obtain ⟨w8,hw8,G38,hC8⟩:=sets5 G3 rfl a.f4 a.d6 b.f4 b.d6 (.int .i64 p7.lost)
    obtain ⟨g3,gf3⟩:=cellsK G3
    have l3:=heap_lt G3
    clear hcl hok hok7 hC7 hA7 hB7 hdis HK6
    unfold pv
    go_wp2_with fail
    try rw [hw8]
    replace C:=C.then_new hC8 (fun x hx=>by simp at hx;omega)
    have HK8:=HK7.chg hC8 (fun x hx=>by simp at hx;omega)
    replace G2:=hC8.keep G2 (by simp;omega)
    replace G3:=G38
    have HS:=Lib.hid (hS7.chg hC8 fun x hm hm2=>(HBD.out x hm).2 (by simpa using hm2))
    clear hw8 hC8 G38 hS7 HK7 g3 gf3
    obtain ⟨g3,gf3⟩:=cellsK G3
    have l3:=heap_lt G3
    have HK:=HK8
    clear HK8
    refine (pick_k R 4 _ (K:=K + (420 + 1 + 1 + 57 * 7) + 1 + 8 * n + 2) (HK.less (by omega))).mono ?_;rintro e9 w9 ⟨q,rfl,hq0,hq1,hC,HK1⟩
    replace C:=C.trans hC
    replace HK:=HK1;clear HK1
    replace G2:=hC.keep G2 (by simp;omega)
    replace G3:=hC.keep G3 (by simp;omega)
    replace HS:=Lib.hid (HS.out.chg hC fun x hm hm2=>by have:=HBD.out x hm;simp at hm2;omega)
    have hqm:=hq1 (by omega)
    clear hC g3 gf3 hq1
    obtain ⟨g3,gf3⟩:=cellsK G3
    have l3:=heap_lt G3
    go_wp2_with fail
    ·obtain ⟨hvA,hvB,hsA,hsB⟩:=HS.out.v HOK.out
     have hcall:=specPairMend_c a.f4 a.d6 b.f4 b.d6 p7  _ hvA hvB hsA hsB
     have hok:=pOk_mend HOK.out
     have l3:=heap_lt G3
     clear hvA hvB hsA hsB
     go_wp2_with fail
     refine hcall.mono ?_;rintro e7 w7 ⟨v,rfl,hx,hPO⟩
     replace C:=C.trans (Chg.of_ext hx)
     replace HK:=HK.ext hx
     replace G2:=keep_ext hx G2
     replace G3:=keep_ext hx G3
     obtain ⟨a',b',rfl,hS7,hb'⟩:=hPO.s hok
     clear HBD HOK HS
     have HBD : Hid (∀ x ∈ a'.L ++ b'.L,w.heap.size < x ∧ x ≠ w1.heap.size):=Lib.hid fun x hm=>by have:=hb' x hm;omega
     have HOK:=Lib.hid hok
     clear hcall hok hx hPO hb'
     generalize mendV p7 = p8 at *
     obtain ⟨w8,hw8,G38,hC8⟩:=sets5 G3 rfl a'.f4 a'.d6 b'.f4 b'.d6 (.int .i64 p8.lost)
     clear g3 gf3
     obtain ⟨g3,gf3⟩:=cellsK G3
     have l3:=heap_lt G3
     unfold pv
     go_wp2_with fail
     try rw [hw8]
     replace C:=C.then_new hC8 (fun x hx=>by simp at hx;omega)
     replace HK:=HK.chg hC8 (fun x hx=>by simp at hx;omega)
     replace G2:=hC8.keep G2 (by simp;omega)
     replace G3:=G38
     have HS:=Lib.hid (hS7.chg hC8 fun x hm hm2=>(HBD.out x hm).2 (by simpa using hm2))
     clear hw8 hC8 G38 hS7 g3 gf3
     obtain ⟨g3,gf3⟩:=cellsK G3
     have l3:=heap_lt G3
     refine (pick_k R 24 _ (K:=K + (420 + 1 + 1 + 57 * 7) + 1 + 8 * n + 1) (HK.less (by omega))).mono ?_;rintro e9 w9 ⟨q,rfl,hq0,hq1,hC,HK1⟩
     replace C:=C.trans hC
     replace HK:=HK1;clear HK1
     replace G2:=hC.keep G2 (by simp;omega)
     replace G3:=hC.keep G3 (by simp;omega)
     replace HS:=Lib.hid (HS.out.chg hC fun x hm hm2=>by have:=HBD.out x hm;simp at hm2;omega)
     have hqm:=hq1 (by omega)
     clear hC g3 gf3 hq1
     obtain ⟨g3,gf3⟩:=cellsK G3
     have l3:=heap_lt G3
     rcases (show q = 0 ∨ q = 1 ∨ q = 2 ∨ q = 3 ∨ 4 ≤ q by omega) with hq | hq | hq | hq | hq
     ·subst hq
      have hn3 : w1.heap.size ≠ R:=by omega
      have HKq : Rk w9 R (K + (420 + 1 + 1 + 57 * 7) + 1 + 8 * n + 1):=HK
      clear HK
      go_wp2_with fail
      refine wp_region_rd HKq [2] [0,1,2,3] [] [4,5] (by kernel_rfl) (by kernel_rfl) ?late ?_
      case late=>exact fun f hf=>absurd hf List.not_mem_nil
      refine Rob.y (v:=?_) rfl rfl (fun w1 hx hH=>?_) ?_;rotate_left
      ·(obtain ⟨z3,zf3⟩:=cellsK (hx.keep G3 (by simp;omega)));go_simp;first | done | rfl
      simp only [Act.put,slA,slB,slC]
      refine Rob.y (v:=?_) rfl rfl (fun w1 hx hH=>?_) ?_;rotate_left
      ·go_simp;first | done | rfl | exact (Bool.not_not _).symm
      simp only [Act.put,slA,slB,slC]
      refine Rob.pick (m:=2) rfl rfl rfl (by omega) (fun _ _ h hx=>h.trans hx) (fun w1 hx HK hH=>?_) (fun lo2 hi2 r2 hrl2 hru2 hlo2 hhi2=>?_)
      ·unfold RunTo;go_simp;exact (pick_k R _ _ HK).mono fun e w' h=>h.run
      simp only [Act.put,slA,slB,slC]
      refine Rob.y (v:=?_) rfl rfl (fun w1 hx hH=>?_) ?_;rotate_left
      ·go_simp;first | done | rfl | exact (Bool.not_not _).symm
      simp only [Act.put,slA,slB,slC]
      refine fin_tailC (fun w10 hx10 HK _=>?_)
      simp only [dstOf,List.getElem?_cons_succ,List.getElem?_cons_zero,Option.bind_some,Act.put,slA,slB,slC,List.filterMap_cons,List.filterMap_nil]
      have hbq : r2 < 2:=hru2 (by omega)
      replace C:=C.trans hx10
      replace G2:=hx10.keep G2 (by simp;omega)
      replace G3:=hx10.keep G3 (by simp;omega)
      replace HS:=Lib.hid (HS.out.chg hx10 fun x hm hm2=>by have:=HBD.out x hm;simp at hm2;omega)
      clear hx10 hru2 HKq
      obtain ⟨hvA,hvB,hsA,hsB⟩:=HS.out.v HOK.out
      have hcall:=specPairLose_c a'.f4 a'.d6 b'.f4 b'.d6 p8 (1 + r2) _ hvA hvB hsA hsB
      have hok:=pOk_lose HOK.out (which:=1 + r2) ⟨by omega,by omega⟩
      have l3:=heap_lt G3
      clear hvA hvB hsA hsB
      go_wp2_with fail
      refine hcall.mono ?_;rintro e7 w7 ⟨v,rfl,hx,hPO⟩
      replace C:=C.trans (Chg.of_ext hx)
      replace HK:=HK.ext hx
      replace G2:=keep_ext hx G2
      replace G3:=keep_ext hx G3
      obtain ⟨a',b',rfl,hS7,hb'⟩:=hPO.s hok
      clear HBD HOK HS
      have HBD : Hid (∀ x ∈ a'.L ++ b'.L,w.heap.size < x ∧ x ≠ w1.heap.size):=Lib.hid fun x hm=>by have:=hb' x hm;omega
      have HOK:=Lib.hid hok
      clear hcall hok hx hPO hb'
      generalize pairLoseV p8 (1 + r2) = p8 at *
      obtain ⟨w8,hw8,G38,hC8⟩:=sets5 G3 rfl a'.f4 a'.d6 b'.f4 b'.d6 (.int .i64 p8.lost)
      clear g3 gf3
      obtain ⟨g3,gf3⟩:=cellsK G3
      have l3:=heap_lt G3
      unfold pv
      go_wp2_with fail
      try rw [hw8]
      replace C:=C.then_new hC8 (fun x hx=>by simp at hx;omega)
      replace HK:=HK.chg hC8 (fun x hx=>by simp at hx;omega)
      replace G2:=hC8.keep G2 (by simp;omega)
      replace G3:=G38
      have HS:=Lib.hid (hS7.chg hC8 fun x hm hm2=>(HBD.out x hm).2 (by simpa using hm2))
      clear hw8 hC8 G38 hS7 g3 gf3
      obtain ⟨g3,gf3⟩:=cellsK G3
      have l3:=heap_lt G3
      exact ⟨⟨n,p8,a',b',by go_num,by omega,C,HS,HOK,HBD,HK.less (by omega),G2,G3⟩,by simp [intOf];try omega⟩
     ·subst hq
      obtain ⟨hvA,hvB,hsA,hsB⟩:=HS.out.v HOK.out
      have hcall:=specPairBack_c a'.f4 a'.d6 b'.f4 b'.d6 p8  _ hvA hvB hsA hsB
      have hok:=pOk_back HOK.out
      have l3:=heap_lt G3
      clear hvA hvB hsA hsB
      go_wp2_with fail
      refine hcall.mono ?_;rintro e7 w7 ⟨v,rfl,hx,hPO⟩
      replace C:=C.trans (Chg.of_ext hx)
      replace HK:=HK.ext hx
      replace G2:=keep_ext hx G2
      replace G3:=keep_ext hx G3
      obtain ⟨a',b',rfl,hS7,hb'⟩:=hPO.s hok
      clear HBD HOK HS
      have HBD : Hid (∀ x ∈ a'.L ++ b'.L,w.heap.size < x ∧ x ≠ w1.heap.size):=Lib.hid fun x hm=>by have:=hb' x hm;omega
      have HOK:=Lib.hid hok
      clear hcall hok hx hPO hb'
      generalize backV p8 = p8 at *
      obtain ⟨w8,hw8,G38,hC8⟩:=sets5 G3 rfl a'.f4 a'.d6 b'.f4 b'.d6 (.int .i64 p8.lost)
      clear g3 gf3
      obtain ⟨g3,gf3⟩:=cellsK G3
      have l3:=heap_lt G3
      unfold pv
      go_wp2_with fail
      try rw [hw8]
      replace C:=C.then_new hC8 (fun x hx=>by simp at hx;omega)
      replace HK:=HK.chg hC8 (fun x hx=>by simp at hx;omega)
      replace G2:=hC8.keep G2 (by simp;omega)
      replace G3:=G38
      have HS:=Lib.hid (hS7.chg hC8 fun x hm hm2=>(HBD.out x hm).2 (by simpa using hm2))
      clear hw8 hC8 G38 hS7 g3 gf3
      obtain ⟨g3,gf3⟩:=cellsK G3
      have l3:=heap_lt G3
      exact ⟨⟨n,p8,a',b',by go_num,by omega,C,HS,HOK,HBD,HK.less (by omega),G2,G3⟩,by simp [intOf];try omega⟩
     ·subst hq
      obtain ⟨hvA,hvB,hsA,hsB⟩:=HS.out.v HOK.out
      have hcall:=specPairBack_c a'.f4 a'.d6 b'.f4 b'.d6 p8  _ hvA hvB hsA hsB
      have hok:=pOk_back HOK.out
      have l3:=heap_lt G3
      clear hvA hvB hsA hsB
      go_wp2_with fail
      refine hcall.mono ?_;rintro e7 w7 ⟨v,rfl,hx,hPO⟩
      replace C:=C.trans (Chg.of_ext hx)
      replace HK:=HK.ext hx
      replace G2:=keep_ext hx G2
      replace G3:=keep_ext hx G3
      obtain ⟨a',b',rfl,hS7,hb'⟩:=hPO.s hok
      clear HBD HOK HS
      have HBD : Hid (∀ x ∈ a'.L ++ b'.L,w.heap.size < x ∧ x ≠ w1.heap.size):=Lib.hid fun x hm=>by have:=hb' x hm;omega
      have HOK:=Lib.hid hok
      clear hcall hok hx hPO hb'
      generalize backV p8 = p8 at *
      obtain ⟨w8,hw8,G38,hC8⟩:=sets5 G3 rfl a'.f4 a'.d6 b'.f4 b'.d6 (.int .i64 p8.lost)
      clear g3 gf3
      obtain ⟨g3,gf3⟩:=cellsK G3
      have l3:=heap_lt G3
      unfold pv
      go_wp2_with fail
      try rw [hw8]
      replace C:=C.then_new hC8 (fun x hx=>by simp at hx;omega)
      replace HK:=HK.chg hC8 (fun x hx=>by simp at hx;omega)
      replace G2:=hC8.keep G2 (by simp;omega)
      replace G3:=G38
      have HS:=Lib.hid (hS7.chg hC8 fun x hm hm2=>(HBD.out x hm).2 (by simpa using hm2))
      clear hw8 hC8 G38 hS7 g3 gf3
      obtain ⟨g3,gf3⟩:=cellsK G3
      have l3:=heap_lt G3
      exact ⟨⟨n,p8,a',b',by go_num,by omega,C,HS,HOK,HBD,HK.less (by omega),G2,G3⟩,by simp [intOf];try omega⟩
     ·subst hq
      obtain ⟨hvA,hvB,hsA,hsB⟩:=HS.out.v HOK.out
      have hcall:=specPairBack_c a'.f4 a'.d6 b'.f4 b'.d6 p8  _ hvA hvB hsA hsB
      have hok:=pOk_back HOK.out
      have l3:=heap_lt G3
      clear hvA hvB hsA hsB
      go_wp2_with fail
      refine hcall.mono ?_;rintro e7 w7 ⟨v,rfl,hx,hPO⟩
      replace C:=C.trans (Chg.of_ext hx)
      replace HK:=HK.ext hx
      replace G2:=keep_ext hx G2
      replace G3:=keep_ext hx G3
      obtain ⟨a',b',rfl,hS7,hb'⟩:=hPO.s hok
      clear HBD HOK HS
      have HBD : Hid (∀ x ∈ a'.L ++ b'.L,w.heap.size < x ∧ x ≠ w1.heap.size):=Lib.hid fun x hm=>by have:=hb' x hm;omega
      have HOK:=Lib.hid hok
      clear hcall hok hx hPO hb'
      generalize backV p8 = p8 at *
      obtain ⟨w8,hw8,G38,hC8⟩:=sets5 G3 rfl a'.f4 a'.d6 b'.f4 b'.d6 (.int .i64 p8.lost)
      clear g3 gf3
      obtain ⟨g3,gf3⟩:=cellsK G3
      have l3:=heap_lt G3
      unfold pv
      go_wp2_with fail
      try rw [hw8]
      replace C:=C.then_new hC8 (fun x hx=>by simp at hx;omega)
      replace HK:=HK.chg hC8 (fun x hx=>by simp at hx;omega)
      replace G2:=hC8.keep G2 (by simp;omega)
      replace G3:=G38
      have HS:=Lib.hid (hS7.chg hC8 fun x hm hm2=>(HBD.out x hm).2 (by simpa using hm2))
      clear hw8 hC8 G38 hS7 g3 gf3
      obtain ⟨g3,gf3⟩:=cellsK G3
      have l3:=heap_lt G3
      exact ⟨⟨n,p8,a',b',by go_num,by omega,C,HS,HOK,HBD,HK.less (by omega),G2,G3⟩,by simp [intOf];try omega⟩
     ·have n0 : (q == 0) = false:=by simp;omega
      have n1 : (q == 1) = false:=by simp;omega
      have n2 : (q == 2) = false:=by simp;omega
      have n3 : (q == 3) = false:=by simp;omega
      go_wp2_with fail
      exact ⟨⟨n,p8,a',b',by go_num,by omega,C,HS,HOK,HBD,HK.less (by omega),G2,G3⟩,by simp [intOf];try omega⟩
    ·refine (pick_k R 24 _ (K:=K + (420 + 1 + 1 + 57 * 7) + 1 + 8 * n + 1) (HK.less (by omega))).mono ?_;rintro e9 w9 ⟨q,rfl,hq0,hq1,hC,HK1⟩
     replace C:=C.trans hC
     replace HK:=HK1;clear HK1
     replace G2:=hC.keep G2 (by simp;omega)
     replace G3:=hC.keep G3 (by simp;omega)
     replace HS:=Lib.hid (HS.out.chg hC fun x hm hm2=>by have:=HBD.out x hm;simp at hm2;omega)
     have hqm:=hq1 (by omega)
     clear hC g3 gf3 hq1
     obtain ⟨g3,gf3⟩:=cellsK G3
     have l3:=heap_lt G3
     rcases (show q = 0 ∨ q = 1 ∨ q = 2 ∨ q = 3 ∨ 4 ≤ q by omega) with hq | hq | hq | hq | hq
     ·subst hq
      have hn3 : w1.heap.size ≠ R:=by omega
      have HKq : Rk w9 R (K + (420 + 1 + 1 + 57 * 7) + 1 + 8 * n + 1):=HK
      clear HK
      go_wp2_with fail
      refine wp_region_rd HKq [2] [0,1,2,3] [] [4,5] (by kernel_rfl) (by kernel_rfl) ?late ?_
      case late=>exact fun f hf=>absurd hf List.not_mem_nil
      refine Rob.y (v:=?_) rfl rfl (fun w1 hx hH=>?_) ?_;rotate_left
      ·(obtain ⟨z3,zf3⟩:=cellsK (hx.keep G3 (by simp;omega)));go_simp;first | done | rfl
      simp only [Act.put,slA,slB,slC]
      refine Rob.y (v:=?_) rfl rfl (fun w1 hx hH=>?_) ?_;rotate_left
      ·go_simp;first | done | rfl | exact (Bool.not_not _).symm
      simp only [Act.put,slA,slB,slC]
      refine Rob.pick (m:=2) rfl rfl rfl (by omega) (fun _ _ h hx=>h.trans hx) (fun w1 hx HK hH=>?_) (fun lo2 hi2 r2 hrl2 hru2 hlo2 hhi2=>?_)
      ·unfold RunTo;go_simp;exact (pick_k R _ _ HK).mono fun e w' h=>h.run
      simp only [Act.put,slA,slB,slC]
      refine Rob.y (v:=?_) rfl rfl (fun w1 hx hH=>?_) ?_;rotate_left
      ·go_simp;first | done | rfl | exact (Bool.not_not _).symm
      simp only [Act.put,slA,slB,slC]
      refine fin_tailC (fun w10 hx10 HK _=>?_)
      simp only [dstOf,List.getElem?_cons_succ,List.getElem?_cons_zero,Option.bind_some,Act.put,slA,slB,slC,List.filterMap_cons,List.filterMap_nil]
      have hbq : r2 < 2:=hru2 (by omega)
      replace C:=C.trans hx10
      replace G2:=hx10.keep G2 (by simp;omega)
      replace G3:=hx10.keep G3 (by simp;omega)
      replace HS:=Lib.hid (HS.out.chg hx10 fun x hm hm2=>by have:=HBD.out x hm;simp at hm2;omega)
      clear hx10 hru2 HKq
      obtain ⟨hvA,hvB,hsA,hsB⟩:=HS.out.v HOK.out
      have hcall:=specPairLose_c a.f4 a.d6 b.f4 b.d6 p7 (1 + r2) _ hvA hvB hsA hsB
      have hok:=pOk_lose HOK.out (which:=1 + r2) ⟨by omega,by omega⟩
      have l3:=heap_lt G3
      clear hvA hvB hsA hsB
      go_wp2_with fail
      refine hcall.mono ?_;rintro e7 w7 ⟨v,rfl,hx,hPO⟩
      replace C:=C.trans (Chg.of_ext hx)
      replace HK:=HK.ext hx
      replace G2:=keep_ext hx G2
      replace G3:=keep_ext hx G3
      obtain ⟨a',b',rfl,hS7,hb'⟩:=hPO.s hok
      clear HBD HOK HS
      have HBD : Hid (∀ x ∈ a'.L ++ b'.L,w.heap.size < x ∧ x ≠ w1.heap.size):=Lib.hid fun x hm=>by have:=hb' x hm;omega
      have HOK:=Lib.hid hok
      clear hcall hok hx hPO hb'
      generalize pairLoseV p7 (1 + r2) = p8 at *
      obtain ⟨w8,hw8,G38,hC8⟩:=sets5 G3 rfl a'.f4 a'.d6 b'.f4 b'.d6 (.int .i64 p8.lost)
      clear g3 gf3
      obtain ⟨g3,gf3⟩:=cellsK G3
      have l3:=heap_lt G3
      unfold pv
      go_wp2_with fail
      try rw [hw8]
      replace C:=C.then_new hC8 (fun x hx=>by simp at hx;omega)
      replace HK:=HK.chg hC8 (fun x hx=>by simp at hx;omega)
      replace G2:=hC8.keep G2 (by simp;omega)
      replace G3:=G38
      have HS:=Lib.hid (hS7.chg hC8 fun x hm hm2=>(HBD.out x hm).2 (by simpa using hm2))
      clear hw8 hC8 G38 hS7 g3 gf3
      obtain ⟨g3,gf3⟩:=cellsK G3
      have l3:=heap_lt G3
      exact ⟨⟨n,p8,a',b',by go_num,by omega,C,HS,HOK,HBD,HK.less (by omega),G2,G3⟩,by simp [intOf];try omega⟩
     ·subst hq
      obtain ⟨hvA,hvB,hsA,hsB⟩:=HS.out.v HOK.out
      have hcall:=specPairBack_c a.f4 a.d6 b.f4 b.d6 p7  _ hvA hvB hsA hsB
      have hok:=pOk_back HOK.out
      have l3:=heap_lt G3
      clear hvA hvB hsA hsB
      go_wp2_with fail
      refine hcall.mono ?_;rintro e7 w7 ⟨v,rfl,hx,hPO⟩
      replace C:=C.trans (Chg.of_ext hx)
      replace HK:=HK.ext hx
      replace G2:=keep_ext hx G2
      replace G3:=keep_ext hx G3
      obtain ⟨a',b',rfl,hS7,hb'⟩:=hPO.s hok
      clear HBD HOK HS
      have HBD : Hid (∀ x ∈ a'.L ++ b'.L,w.heap.size < x ∧ x ≠ w1.heap.size):=Lib.hid fun x hm=>by have:=hb' x hm;omega
      have HOK:=Lib.hid hok
      clear hcall hok hx hPO hb'
      generalize backV p7 = p8 at *
      obtain ⟨w8,hw8,G38,hC8⟩:=sets5 G3 rfl a'.f4 a'.d6 b'.f4 b'.d6 (.int .i64 p8.lost)
      clear g3 gf3
      obtain ⟨g3,gf3⟩:=cellsK G3
      have l3:=heap_lt G3
      unfold pv
      go_wp2_with fail
      try rw [hw8]
      replace C:=C.then_new hC8 (fun x hx=>by simp at hx;omega)
      replace HK:=HK.chg hC8 (fun x hx=>by simp at hx;omega)
      replace G2:=hC8.keep G2 (by simp;omega)
      replace G3:=G38
      have HS:=Lib.hid (hS7.chg hC8 fun x hm hm2=>(HBD.out x hm).2 (by simpa using hm2))
      clear hw8 hC8 G38 hS7 g3 gf3
      obtain ⟨g3,gf3⟩:=cellsK G3
      have l3:=heap_lt G3
      exact ⟨⟨n,p8,a',b',by go_num,by omega,C,HS,HOK,HBD,HK.less (by omega),G2,G3⟩,by simp [intOf];try omega⟩
     ·subst hq
      obtain ⟨hvA,hvB,hsA,hsB⟩:=HS.out.v HOK.out
      have hcall:=specPairBack_c a.f4 a.d6 b.f4 b.d6 p7  _ hvA hvB hsA hsB
      have hok:=pOk_back HOK.out
      have l3:=heap_lt G3
      clear hvA hvB hsA hsB
      go_wp2_with fail
      refine hcall.mono ?_;rintro e7 w7 ⟨v,rfl,hx,hPO⟩
      replace C:=C.trans (Chg.of_ext hx)
      replace HK:=HK.ext hx
      replace G2:=keep_ext hx G2
      replace G3:=keep_ext hx G3
      obtain ⟨a',b',rfl,hS7,hb'⟩:=hPO.s hok
      clear HBD HOK HS
      have HBD : Hid (∀ x ∈ a'.L ++ b'.L,w.heap.size < x ∧ x ≠ w1.heap.size):=Lib.hid fun x hm=>by have:=hb' x hm;omega
      have HOK:=Lib.hid hok
      clear hcall hok hx hPO hb'
      generalize backV p7 = p8 at *
      obtain ⟨w8,hw8,G38,hC8⟩:=sets5 G3 rfl a'.f4 a'.d6 b'.f4 b'.d6 (.int .i64 p8.lost)
      clear g3 gf3
      obtain ⟨g3,gf3⟩:=cellsK G3
      have l3:=heap_lt G3
      unfold pv
      go_wp2_with fail
      try rw [hw8]
      replace C:=C.then_new hC8 (fun x hx=>by simp at hx;omega)
      replace HK:=HK.chg hC8 (fun x hx=>by simp at hx;omega)
      replace G2:=hC8.keep G2 (by simp;omega)
      replace G3:=G38
      have HS:=Lib.hid (hS7.chg hC8 fun x hm hm2=>(HBD.out x hm).2 (by simpa using hm2))
      clear hw8 hC8 G38 hS7 g3 gf3
      obtain ⟨g3,gf3⟩:=cellsK G3
      have l3:=heap_lt G3
      exact ⟨⟨n,p8,a',b',by go_num,by omega,C,HS,HOK,HBD,HK.less (by omega),G2,G3⟩,by simp [intOf];try omega⟩
     ·subst hq
      obtain ⟨hvA,hvB,hsA,hsB⟩:=HS.out.v HOK.out
      have hcall:=specPairBack_c a.f4 a.d6 b.f4 b.d6 p7  _ hvA hvB hsA hsB
      have hok:=pOk_back HOK.out
      have l3:=heap_lt G3
      clear hvA hvB hsA hsB
      go_wp2_with fail
      refine hcall.mono ?_;rintro e7 w7 ⟨v,rfl,hx,hPO⟩
      replace C:=C.trans (Chg.of_ext hx)
      replace HK:=HK.ext hx
      replace G2:=keep_ext hx G2
      replace G3:=keep_ext hx G3
      obtain ⟨a',b',rfl,hS7,hb'⟩:=hPO.s hok
      clear HBD HOK HS
      have HBD : Hid (∀ x ∈ a'.L ++ b'.L,w.heap.size < x ∧ x ≠ w1.heap.size):=Lib.hid fun x hm=>by have:=hb' x hm;omega
      have HOK:=Lib.hid hok
      clear hcall hok hx hPO hb'
      generalize backV p7 = p8 at *
      obtain ⟨w8,hw8,G38,hC8⟩:=sets5 G3 rfl a'.f4 a'.d6 b'.f4 b'.d6 (.int .i64 p8.lost)
      clear g3 gf3
      obtain ⟨g3,gf3⟩:=cellsK G3
      have l3:=heap_lt G3
      unfold pv
      go_wp2_with fail
      try rw [hw8]
      replace C:=C.then_new hC8 (fun x hx=>by simp at hx;omega)
      replace HK:=HK.chg hC8 (fun x hx=>by simp at hx;omega)
      replace G2:=hC8.keep G2 (by simp;omega)
      replace G3:=G38
      have HS:=Lib.hid (hS7.chg hC8 fun x hm hm2=>(HBD.out x hm).2 (by simpa using hm2))
      clear hw8 hC8 G38 hS7 g3 gf3
      obtain ⟨g3,gf3⟩:=cellsK G3
      have l3:=heap_lt G3
      exact ⟨⟨n,p8,a',b',by go_num,by omega,C,HS,HOK,HBD,HK.less (by omega),G2,G3⟩,by simp [intOf];try omega⟩
     ·have n0 : (q == 0) = false:=by simp;omega
      have n1 : (q == 1) = false:=by simp;omega
      have n2 : (q == 2) = false:=by simp;omega
      have n3 : (q == 3) = false:=by simp;omega
      go_wp2_with fail
      exact ⟨⟨n,p7,a,b,by go_num,by omega,C,HS,HOK,HBD,HK.less (by omega),G2,G3⟩,by simp [intOf];try omega⟩
   ·have HK : Rk w2 R (K + (420 + 1 + 1 + 57 * 7) + 1 + 8 * n + 6):=HK.less (by omega)
    go_wp2_with fail
    obtain ⟨g3,gf3⟩:=cellsK G3
    have hn3 : w1.heap.size ≠ R:=by omega
    refine wp_region_rd HK [2,5,8] [0,1,4,6,7,2,3,5,8,9] [] [10,11] (by kernel_rfl) (by kernel_rfl) ?late ?_
    case late=>exact fun f hf=>absurd hf List.not_mem_nil
    refine Rob.y (v:=?_) rfl rfl (fun w1 hx hH=>?_) ?_;rotate_left
    ·(obtain ⟨z3,zf3⟩:=cellsK (hx.keep G3 (by simp;omega)));go_simp;first | done | rfl
    simp only [Act.put,slA,slB,slC]
    iterate 4
     refine Rob.y (v:=?_) rfl rfl (fun w1 hx hH=>?_) ?_;rotate_left
     ·go_simp;first | done | rfl | exact (Bool.not_not _).symm
     simp only [Act.put,slA,slB,slC]
    refine Rob.pick (m:=6) rfl rfl rfl (by omega) (fun _ _ h hx=>h.trans hx) (fun w1 hx HK hH=>?_) (fun lo2 hi2 r2 hrl2 hru2 hlo2 hhi2=>?_)
    ·unfold RunTo;go_simp;exact (pick_k R _ _ HK).mono fun e w' h=>h.run
    simp only [Act.put,slA,slB,slC]
    refine Rob.y (v:=?_) rfl rfl (fun w1 hx hH=>?_) ?_;rotate_left
    ·go_simp;first | done | rfl | exact (Bool.not_not _).symm
    simp only [Act.put,slA,slB,slC]
    refine Rob.pick (m:=10) rfl rfl rfl (by omega) (fun _ _ h hx=>h.trans hx) (fun w1 hx HK hH=>?_) (fun lo5 hi5 r5 hrl5 hru5 hlo5 hhi5=>?_)
    ·unfold RunTo;go_simp;exact (pick_k R _ _ HK).mono fun e w' h=>h.run
    simp only [Act.put,slA,slB,slC]
    refine Rob.pick (m:=2) rfl rfl rfl (by omega) (fun _ _ h hx=>h.trans hx) (fun w1 hx HK hH=>?_) (fun lo8 hi8 r8 hrl8 hru8 hlo8 hhi8=>?_)
    ·unfold RunTo;go_simp;exact (pick_k R _ _ HK).mono fun e w' h=>h.run
    simp only [Act.put,slA,slB,slC]
    refine Rob.y (v:=?_) rfl rfl (fun w1 hx hH=>?_) ?_;rotate_left
    ·go_simp;first | done | rfl | exact (Bool.not_not _).symm
    simp only [Act.put,slA,slB,slC]
    refine fin_tailC (fun w6 hx6 HK6 _=>?_)
    simp only [dstOf,List.getElem?_cons_succ,List.getElem?_cons_zero,Option.bind_some,Act.put,slA,slB,slC,List.filterMap_cons,List.filterMap_nil]
    have hb2 : r2 < 6:=hru2 (by omega)
    have hb5 : r5 < 10:=hru5 (by omega)
    replace C:=C.trans hx6
    replace G2:=hx6.keep G2 (by simp;omega)
    replace G3:=hx6.keep G3 (by simp;omega)
    have hS6:=HS.out.chg hx6 fun x hm hm2=>by have:=HBD.out x hm;simp at hm2;omega
    obtain ⟨HPA,HPB⟩ : StoreP p.A ∧ StoreP p.B:=by obtain ⟨_,h1,h2⟩:=pOk_iff.1 HOK.out;exact ⟨storeOk_P h1,storeOk_P h2⟩
    have hcl:=fun (torn : Bool)=>l23Put_c a b p (1 + r2) r5 (99 : Int) torn w6 hS6.1 hS6.2.1 hS6.2.2 HPA HPB ⟨by omega,by omega⟩
    have hok:=fun (torn : Bool)=>pOk_put HOK.out (1 + r2) r5 (99 : Int) torn
    have hdis:=hS6.2.2
    clear hru2 hru5 HPA HPB hx6 hS6 HS HK g3 gf3
    clear HOK
    go_wp2_with fail
    refine (hcl _).mono ?_;rintro e7 w7 ⟨rfl,hC7,hA7,hB7⟩
    have hok7:=hok (r8 == 0)
    generalize putV p (1 + r2) r5 (99 : Int) (r8 == 0) = p7 at *
    have hS7 : PairS w7 a b p7:=⟨hA7,hB7,hdis⟩
    replace C:=C.then_new hC7 (fun x hx=>by have:=HBD.out x hx;omega)
    have HK7:=HK6.chg hC7 (fun x hx=>by have:=HBD.out x hx;omega)
    replace G2:=hC7.keep G2 (fun hm=>by have:=HBD.out _ hm;omega)
    replace G3:=hC7.keep G3 (fun hm=>(HBD.out _ hm).2 rfl)
    have HOK:=Lib.hid hok7
    obtain ⟨w8,hw8,G38,hC8⟩:=sets5 G3 rfl a.f4 a.d6 b.f4 b.d6 (.int .i64 p7.lost)
    obtain ⟨g3,gf3⟩:=cellsK G3
    have l3:=heap_lt G3
    clear hcl hok hok7 hC7 hA7 hB7 hdis HK6
    unfold pv
    go_wp2_with fail
    try rw [hw8]
    replace C:=C.then_new hC8 (fun x hx=>by simp at hx;omega)
    have HK8:=HK7.chg hC8 (fun x hx=>by simp at hx;omega)
    replace G2:=hC8.keep G2 (by simp;omega)
    replace G3:=G38
    have HS:=Lib.hid (hS7.chg hC8 fun x hm hm2=>(HBD.out x hm).2 (by simpa using hm2))
    clear hw8 hC8 G38 hS7 HK7 g3 gf3
    obtain ⟨g3,gf3⟩:=cellsK G3
    have l3:=heap_lt G3
    have HK:=HK8
    clear HK8
    refine (pick_k R 24 _ (K:=K + (420 + 1 + 1 + 57 * 7) + 1 + 8 * n + 1) (HK.less (by omega))).mono ?_;rintro e9 w9 ⟨q,rfl,hq0,hq1,hC,HK1⟩
    replace C:=C.trans hC
    replace HK:=HK1;clear HK1
    replace G2:=hC.keep G2 (by simp;omega)
    replace G3:=hC.keep G3 (by simp;omega)
    replace HS:=Lib.hid (HS.out.chg hC fun x hm hm2=>by have:=HBD.out x hm;simp at hm2;omega)
    have hqm:=hq1 (by omega)
    clear hC g3 gf3 hq1
    obtain ⟨g3,gf3⟩:=cellsK G3
    have l3:=heap_lt G3
    rcases (show q = 0 ∨ q = 1 ∨ q = 2 ∨ q = 3 ∨ 4 ≤ q by omega) with hq | hq | hq | hq | hq
    ·subst hq
     have hn3 : w1.heap.size ≠ R:=by omega
     have HKq : Rk w9 R (K + (420 + 1 + 1 + 57 * 7) + 1 + 8 * n + 1):=HK
     clear HK
     go_wp2_with fail
     refine wp_region_rd HKq [2] [0,1,2,3] [] [4,5] (by kernel_rfl) (by kernel_rfl) ?late ?_
     case late=>exact fun f hf=>absurd hf List.not_mem_nil
     refine Rob.y (v:=?_) rfl rfl (fun w1 hx hH=>?_) ?_;rotate_left
     ·(obtain ⟨z3,zf3⟩:=cellsK (hx.keep G3 (by simp;omega)));go_simp;first | done | rfl
     simp only [Act.put,slA,slB,slC]
     refine Rob.y (v:=?_) rfl rfl (fun w1 hx hH=>?_) ?_;rotate_left
     ·go_simp;first | done | rfl | exact (Bool.not_not _).symm
     simp only [Act.put,slA,slB,slC]
     refine Rob.pick (m:=2) rfl rfl rfl (by omega) (fun _ _ h hx=>h.trans hx) (fun w1 hx HK hH=>?_) (fun lo2 hi2 r2 hrl2 hru2 hlo2 hhi2=>?_)
     ·unfold RunTo;go_simp;exact (pick_k R _ _ HK).mono fun e w' h=>h.run
     simp only [Act.put,slA,slB,slC]
     refine Rob.y (v:=?_) rfl rfl (fun w1 hx hH=>?_) ?_;rotate_left
     ·go_simp;first | done | rfl | exact (Bool.not_not _).symm
     simp only [Act.put,slA,slB,slC]
     refine fin_tailC (fun w10 hx10 HK _=>?_)
     simp only [dstOf,List.getElem?_cons_succ,List.getElem?_cons_zero,Option.bind_some,Act.put,slA,slB,slC,List.filterMap_cons,List.filterMap_nil]
     have hbq : r2 < 2:=hru2 (by omega)
     replace C:=C.trans hx10
     replace G2:=hx10.keep G2 (by simp;omega)
     replace G3:=hx10.keep G3 (by simp;omega)
     replace HS:=Lib.hid (HS.out.chg hx10 fun x hm hm2=>by have:=HBD.out x hm;simp at hm2;omega)
     clear hx10 hru2 HKq
     obtain ⟨hvA,hvB,hsA,hsB⟩:=HS.out.v HOK.out
     have hcall:=specPairLose_c a.f4 a.d6 b.f4 b.d6 p7 (1 + r2) _ hvA hvB hsA hsB
     have hok:=pOk_lose HOK.out (which:=1 + r2) ⟨by omega,by omega⟩
     have l3:=heap_lt G3
     clear hvA hvB hsA hsB
     go_wp2_with fail
     refine hcall.mono ?_;rintro e7 w7 ⟨v,rfl,hx,hPO⟩
     replace C:=C.trans (Chg.of_ext hx)
     replace HK:=HK.ext hx
     replace G2:=keep_ext hx G2
     replace G3:=keep_ext hx G3
     obtain ⟨a',b',rfl,hS7,hb'⟩:=hPO.s hok
     clear HBD HOK HS
     have HBD : Hid (∀ x ∈ a'.L ++ b'.L,w.heap.size < x ∧ x ≠ w1.heap.size):=Lib.hid fun x hm=>by have:=hb' x hm;omega
     have HOK:=Lib.hid hok
     clear hcall hok hx hPO hb'
     generalize pairLoseV p7 (1 + r2) = p8 at *
     obtain ⟨w8,hw8,G38,hC8⟩:=sets5 G3 rfl a'.f4 a'.d6 b'.f4 b'.d6 (.int .i64 p8.lost)
     clear g3 gf3
     obtain ⟨g3,gf3⟩:=cellsK G3
     have l3:=heap_lt G3
     unfold pv
     go_wp2_with fail
     try rw [hw8]
     replace C:=C.then_new hC8 (fun x hx=>by simp at hx;omega)
     replace HK:=HK.chg hC8 (fun x hx=>by simp at hx;omega)
     replace G2:=hC8.keep G2 (by simp;omega)
     replace G3:=G38
     have HS:=Lib.hid (hS7.chg hC8 fun x hm hm2=>(HBD.out x hm).2 (by simpa using hm2))
     clear hw8 hC8 G38 hS7 g3 gf3
     obtain ⟨g3,gf3⟩:=cellsK G3
     have l3:=heap_lt G3
     exact ⟨⟨n,p8,a',b',by go_num,by omega,C,HS,HOK,HBD,HK.less (by omega),G2,G3⟩,by simp [intOf];try omega⟩
    ·subst hq
     obtain ⟨hvA,hvB,hsA,hsB⟩:=HS.out.v HOK.out
     have hcall:=specPairBack_c a.f4 a.d6 b.f4 b.d6 p7  _ hvA hvB hsA hsB
     have hok:=pOk_back HOK.out
     have l3:=heap_lt G3
     clear hvA hvB hsA hsB
     go_wp2_with fail
     refine hcall.mono ?_;rintro e7 w7 ⟨v,rfl,hx,hPO⟩
     replace C:=C.trans (Chg.of_ext hx)
     replace HK:=HK.ext hx
     replace G2:=keep_ext hx G2
     replace G3:=keep_ext hx G3
     obtain ⟨a',b',rfl,hS7,hb'⟩:=hPO.s hok
     clear HBD HOK HS
     have HBD : Hid (∀ x ∈ a'.L ++ b'.L,w.heap.size < x ∧ x ≠ w1.heap.size):=Lib.hid fun x hm=>by have:=hb' x hm;omega
     have HOK:=Lib.hid hok
     clear hcall hok hx hPO hb'
     generalize backV p7 = p8 at *
     obtain ⟨w8,hw8,G38,hC8⟩:=sets5 G3 rfl a'.f4 a'.d6 b'.f4 b'.d6 (.int .i64 p8.lost)
     clear g3 gf3
     obtain ⟨g3,gf3⟩:=cellsK G3
     have l3:=heap_lt G3
     unfold pv
     go_wp2_with fail
     try rw [hw8]
     replace C:=C.then_new hC8 (fun x hx=>by simp at hx;omega)
     replace HK:=HK.chg hC8 (fun x hx=>by simp at hx;omega)
     replace G2:=hC8.keep G2 (by simp;omega)
     replace G3:=G38
     have HS:=Lib.hid (hS7.chg hC8 fun x hm hm2=>(HBD.out x hm).2 (by simpa using hm2))
     clear hw8 hC8 G38 hS7 g3 gf3
     obtain ⟨g3,gf3⟩:=cellsK G3
     have l3:=heap_lt G3
     exact ⟨⟨n,p8,a',b',by go_num,by omega,C,HS,HOK,HBD,HK.less (by omega),G2,G3⟩,by simp [intOf];try omega⟩
    ·subst hq
     obtain ⟨hvA,hvB,hsA,hsB⟩:=HS.out.v HOK.out
     have hcall:=specPairBack_c a.f4 a.d6 b.f4 b.d6 p7  _ hvA hvB hsA hsB
     have hok:=pOk_back HOK.out
     have l3:=heap_lt G3
     clear hvA hvB hsA hsB
     go_wp2_with fail
     refine hcall.mono ?_;rintro e7 w7 ⟨v,rfl,hx,hPO⟩
     replace C:=C.trans (Chg.of_ext hx)
     replace HK:=HK.ext hx
     replace G2:=keep_ext hx G2
     replace G3:=keep_ext hx G3
     obtain ⟨a',b',rfl,hS7,hb'⟩:=hPO.s hok
     clear HBD HOK HS
     have HBD : Hid (∀ x ∈ a'.L ++ b'.L,w.heap.size < x ∧ x ≠ w1.heap.size):=Lib.hid fun x hm=>by have:=hb' x hm;omega
     have HOK:=Lib.hid hok
     clear hcall hok hx hPO hb'
     generalize backV p7 = p8 at *
     obtain ⟨w8,hw8,G38,hC8⟩:=sets5 G3 rfl a'.f4 a'.d6 b'.f4 b'.d6 (.int .i64 p8.lost)
     clear g3 gf3
     obtain ⟨g3,gf3⟩:=cellsK G3
     have l3:=heap_lt G3
     unfold pv
     go_wp2_with fail
     try rw [hw8]
     replace C:=C.then_new hC8 (fun x hx=>by simp at hx;omega)
     replace HK:=HK.chg hC8 (fun x hx=>by simp at hx;omega)
     replace G2:=hC8.keep G2 (by simp;omega)
     replace G3:=G38
     have HS:=Lib.hid (hS7.chg hC8 fun x hm hm2=>(HBD.out x hm).2 (by simpa using hm2))
     clear hw8 hC8 G38 hS7 g3 gf3
     obtain ⟨g3,gf3⟩:=cellsK G3
     have l3:=heap_lt G3
     exact ⟨⟨n,p8,a',b',by go_num,by omega,C,HS,HOK,HBD,HK.less (by omega),G2,G3⟩,by simp [intOf];try omega⟩
    ·subst hq
     obtain ⟨hvA,hvB,hsA,hsB⟩:=HS.out.v HOK.out
     have hcall:=specPairBack_c a.f4 a.d6 b.f4 b.d6 p7  _ hvA hvB hsA hsB
     have hok:=pOk_back HOK.out
     have l3:=heap_lt G3
     clear hvA hvB hsA hsB
     go_wp2_with fail
     refine hcall.mono ?_;rintro e7 w7 ⟨v,rfl,hx,hPO⟩
     replace C:=C.trans (Chg.of_ext hx)
     replace HK:=HK.ext hx
     replace G2:=keep_ext hx G2
     replace G3:=keep_ext hx G3
     obtain ⟨a',b',rfl,hS7,hb'⟩:=hPO.s hok
     clear HBD HOK HS
     have HBD : Hid (∀ x ∈ a'.L ++ b'.L,w.heap.size < x ∧ x ≠ w1.heap.size):=Lib.hid fun x hm=>by have:=hb' x hm;omega
     have HOK:=Lib.hid hok
     clear hcall hok hx hPO hb'
     generalize backV p7 = p8 at *
     obtain ⟨w8,hw8,G38,hC8⟩:=sets5 G3 rfl a'.f4 a'.d6 b'.f4 b'.d6 (.int .i64 p8.lost)
     clear g3 gf3
     obtain ⟨g3,gf3⟩:=cellsK G3
     have l3:=heap_lt G3
     unfold pv
     go_wp2_with fail
     try rw [hw8]
     replace C:=C.then_new hC8 (fun x hx=>by simp at hx;omega)
     replace HK:=HK.chg hC8 (fun x hx=>by simp at hx;omega)
     replace G2:=hC8.keep G2 (by simp;omega)
     replace G3:=G38
     have HS:=Lib.hid (hS7.chg hC8 fun x hm hm2=>(HBD.out x hm).2 (by simpa using hm2))
     clear hw8 hC8 G38 hS7 g3 gf3
     obtain ⟨g3,gf3⟩:=cellsK G3
     have l3:=heap_lt G3
     exact ⟨⟨n,p8,a',b',by go_num,by omega,C,HS,HOK,HBD,HK.less (by omega),G2,G3⟩,by simp [intOf];try omega⟩
    ·have n0 : (q == 0) = false:=by simp;omega
     have n1 : (q == 1) = false:=by simp;omega
     have n2 : (q == 2) = false:=by simp;omega
     have n3 : (q == 3) = false:=by simp;omega
     go_wp2_with fail
     exact ⟨⟨n,p7,a,b,by go_num,by omega,C,HS,HOK,HBD,HK.less (by omega),G2,G3⟩,by simp [intOf];try omega⟩
end Go.Bu
namespace Go.Bu
open Go Go.RowKit Go.Plan Go.Proofs
set_option maxHeartbeats 1000000 in
theorem markBlockS_g (v : Value) (f : List Block) (B : Nat) (bs : List Nat) (x : Int) (w : World) (h : OwnFlash w v f B bs) (hnd : (B :: bs).Nodup) (hn : f.length ≤ 1048576) (h4 : ∀ b ∈ f,b.pages.length ≤ 1048576) (hx0 : 0 ≤ x) (hx1 : x ≤ 6000000000000) :
  Calls Tryz.prog 99 #[v,.int .i64 x] w (fun e w'=>∃ k,e = .returned (.int .i64 k) ∧ x ≤ k ∧ k ≤ x + f.length * 5242881 ∧ Chg (B :: bs) w w'):=by
 obtain ⟨rows,⟨T,o,cap,rfl,hA⟩,hr,hb,hP⟩:=h
 rw [hr]
 have hBn : B ∉ bs:=(List.nodup_cons.1 hnd).1
 have hbn : bs.Nodup:=(List.nodup_cons.1 hnd).2
 have H4:=Lib.hid h4;clear h4
 have HP : Hid (PagesAt w rows f bs):=Lib.hid hP
 clear hP
 go_enter Tryz.func99,Tryz.ntmps99
 go_wp2
 go_loopw [1,5] (fun y i wr=>∃ (k : Nat) (m : Int) (rs : List (Value × Int)) (gs : List Block),k ≤ f.length ∧ i = .int .i64 k ∧ y = .int .i64 m ∧ x ≤ m ∧ m ≤ x + k * 5242881 ∧ Chg (B :: bs) w wr ∧ OwnAt 2 rowC T wr B o rs ∧ rs.length = f.length ∧ gs.length = f.length ∧ Hid (PagesAt wr rs gs bs) ∧ Hid (∀ b ∈ gs,b.pages.length ≤ 1048576)) (fun _ i _=>f.length - (intOf i).toNat)
 case atStart=>exact ⟨0,x,rows,f,Nat.zero_le _,rfl,rfl,by omega,by omega,Chg.refl _ _,hA,hr,rfl,HP,H4⟩
 case round =>
  obtain ⟨k,m,rs,gs,hk,rfl,rfl,hm0,hm1,hC,hO,hl,hl2,HPA,HGa⟩:=hrel
  by_cases hlt : k < f.length
  ·obtain ⟨e0,e1⟩:=hO.two (k:=k) (by omega)
   obtain ⟨hw,hpg⟩:=HPA.out k gs[k] rs[k] bs[k] (List.getElem?_eq_getElem (by omega)) (List.getElem?_eq_getElem (by omega)) (List.getElem?_eq_getElem (by omega))
   have hp4 : gs[k].pages.length ≤ 1048576:=HGa.out _ (List.getElem_mem _)
   go_wp2_with fail
   refine (markPageS_c _ gs[k].pages bs[k] _ _ hpg hp4 (by omega) (by omega)).mono ?_;rintro e1 w1 ⟨rfl,hc1,qs,hO1,hl1,hq1⟩
   clear hq1
   have hBk : B ≠ bs[k]:=fun e=>hBn (by rw [e];exact List.getElem_mem _)
   have hA1:=hO.chg hc1 (by simpa using hBk)
   obtain ⟨e0,e1⟩:=hA1.two (k:=k) (by omega)
   have ef:=hA1.frozen
   generalize hm' : m + 5 * (gs[k].pages.length : Int) = m' at *
   have hm2 : m ≤ m' ∧ m' ≤ m + 5242880:=by omega
   have hS:=OwnAt.set1 (n:=2) (enc:=rowC) (fun _=>rfl) hA1 (k:=k) (by omega) (j:=1) (by omega) (.int .i64 m') (rs[k].1,m') rfl
   have HS:=Lib.hid hS;clear hS
   have hC1 : Chg (B :: bs) w w1:=hC.trans (hc1.mono (by simp))
   have hBm : ∀ b ∈ bs,b ≠ B:=fun b hb e=>hBn (by rw [← e];exact hb)
   have HPN : Hid (∀ u : Value,PagesAt (w1.setCell ⟨B,o + k * 2 + 1,none⟩ u) (rs.set k (rs[k].1,m')) (gs.set k ⟨qs,m'⟩) bs):=Lib.hid (by
    intro u i y r b hy hr hbi
    have hbb:=hBm b (List.mem_of_getElem? hbi)
    by_cases hik : i = k
    ·subst hik
     rw [List.getElem?_set_self (by omega)] at hy hr
     obtain rfl:=Option.some.inj hy
     obtain rfl:=Option.some.inj hr
     rw [List.getElem?_eq_getElem (by omega)] at hbi
     obtain rfl:=Option.some.inj hbi
     exact ⟨rfl,hO1.keep (setCell_other hbb)⟩
    ·rw [List.getElem?_set_ne (Ne.symm hik)] at hy hr
     obtain ⟨h1,h2⟩:=HPA.out i y r b hy hr hbi
     refine ⟨h1,(h2.chg hc1 ?_).keep (setCell_other hbb)⟩
     simp only [List.mem_singleton]
     rintro rfl
     have hbl:=(List.getElem?_eq_some_iff.1 hbi).1
     exact hik (nodup_inj hbn hbi (List.getElem?_eq_getElem (by omega))))
   have HGb : Hid (∀ b ∈ gs.set k ⟨qs,m'⟩,b.pages.length ≤ 1048576):=Lib.hid (fun b hb=>by
    rcases List.mem_or_eq_of_mem_set hb with hb | rfl
    ·exact HGa.out b hb
    ·dsimp only;omega)
   clear HPA HGa hA1 hO hc1 hO1 hpg hw
   go_wp2_with fail
   go_roundw
   case rel=>exact ⟨k + 1,_,_,_,by omega,by go_num,rfl,by omega,by omega,hC1.set (.inl (by simp)) _,HS.out,by rw [List.length_set];exact hl,by rw [List.length_set];exact hl2,HPN.out _,HGb⟩
   case measure=>simp [intOf];omega
  ·obtain rfl : k = f.length:=by omega
   go_wp2
   go_ret
   exact ⟨m,rfl,hm0,hm1,hC⟩
theorem markStore_g (f d : Value) (s : Store) (L : List Nat) (x : Int) (w : World) (h : OwnStore w f d s L) (hnd : L.Nodup) (hs : Small s) (hx0 : 0 ≤ x) (hx1 : x ≤ 6000000000000) :
  Calls Tryz.prog 58 #[.agg #[f,d],.int .i64 x] w (fun e w'=>∃ k,e = .returned (.int .i64 k) ∧ x ≤ k ∧ k ≤ x + 5497561000000 ∧ Chg L w w'):=by
 obtain ⟨B,bs,D,rfl,hF,hD⟩:=h
 have hlt:=hF.lt
 have hDn : D ∉ B :: bs:=by
  rw [List.nodup_append] at hnd
  exact fun hm=>hnd.2.2 D hm D (by simp) rfl
 have hn1 : (B :: bs).Nodup:=(List.nodup_append.1 hnd).1
 have hs1:=hs.1
 have hs3:=hs.2.2
 go_enter Tryz.func58,Tryz.ntmps58
 go_wp2_with fail
 refine (markBlockS_g f s.flash B bs x _ (hF.ext (ext_alloc (ext_refl _) _)) hn1 hs1 hs.2.1 hx0 (by omega)).mono ?_;rintro e1 w1 ⟨k,rfl,hk0,hk1,hc1⟩
 have G0:=hc1.keep (alloc_get_new rfl) (fun hm=>absurd (hlt _ hm) (Nat.lt_irrefl _))
 have hD1 : OwnInts w1 d s.disk D:=(hD.ext (ext_alloc (ext_refl _) _)).chg hc1 hDn
 have g0 : w1.cell? ⟨w.heap.size,0,none⟩ = some f:=by rw [cell_block G0];rfl
 have g1 : w1.cell? ⟨w.heap.size,1,none⟩ = some d:=by rw [cell_block G0];rfl
 have C1 : Chg (B :: bs ++ [D]) w w1:=((Chg.refl _ w).alloc _).trans (hc1.mono fun b hb=>List.mem_append_left _ hb)
 clear hc1 G0
 go_wp2_with fail
 refine (markIntS_c d s.disk D _ _ hD1 hs3 (by omega) (by omega)).mono ?_;rintro e2 w2 ⟨rfl,hc2,ds,hO2,hl2,hq2⟩
 go_wp2_with fail
 go_ret
 exact ⟨_,rfl,by omega,by omega,C1.trans (hc2.mono (by simp))⟩
theorem markPair_g (f d g e : Value) (n : Int) (s t : Store) (L K : List Nat) (w : World) (h : OwnStore w f d s L) (h2 : OwnStore w g e t K) (hnd : (L ++ K).Nodup) (hs : Small s) (ht : Small t) :
  Calls Tryz.prog 28 #[.agg #[f,d,g,e,.int .i64 n],.int .i64 1] w (fun r w'=>∃ k,r = .returned (.int .i64 k) ∧ 0 ≤ k ∧ Chg (L ++ K) w w'):=by
 have hlt:=h.lt
 have hap : ∀ b ∈ K,b ∉ L:=fun b hb hm=>(List.nodup_append.1 hnd).2.2 b hm b hb rfl
 go_enter Tryz.func28,Tryz.ntmps28
 go_wp2_with fail
 refine (markStore_g f d s L 1 _ (h.ext (ext_alloc (ext_refl _) _)) (List.nodup_append.1 hnd).1 hs (by omega) (by omega)).mono ?_;rintro e1 w1 ⟨k,rfl,hk0,hk1,hc1⟩
 have G0:=hc1.keep (alloc_get_new rfl) (fun hm=>absurd (hlt _ hm) (Nat.lt_irrefl _))
 have g2 : w1.cell? ⟨w.heap.size,2,none⟩ = some g:=by rw [cell_block G0];rfl
 have g3 : w1.cell? ⟨w.heap.size,3,none⟩ = some e:=by rw [cell_block G0];rfl
 have hD1 : OwnStore w1 g e t K:=(h2.ext (ext_alloc (ext_refl _) _)).chg hc1 hap
 have C1 : Chg (L ++ K) w w1:=((Chg.refl _ w).alloc _).trans (hc1.mono fun b hb=>List.mem_append_left _ hb)
 clear hc1 G0
 go_wp2_with fail
 refine (markStore_g g e t K _ _ hD1 (List.nodup_append.1 hnd).2.1 ht (by omega) (by omega)).mono ?_;rintro e2 w2 ⟨k2,rfl,hk2,hk3,hc2⟩
 go_wp2_with fail
 go_ret
 exact ⟨_,rfl,by omega,C1.trans (hc2.mono fun b hb=>List.mem_append_right _ hb)⟩
def IntsL (w : World) (v : Value) (xs : List Int) (L : List Nat) : Prop:=(v = .slice none 0 0 ∧ xs = [] ∧ L = []) ∨ ∃ B,L = [B] ∧ OwnInts w v xs B
theorem IntsOut.l {base : Nat} {w : World} {v : Value} {xs : List Int} (h : IntsOut base w v xs) : ∃ L,IntsL w v xs L ∧ ∀ b ∈ L,base ≤ b:=by
 rcases h with ⟨h1,h2⟩ | ⟨B,h1,h2⟩
 ·exact ⟨[],.inl ⟨h1,h2,rfl⟩,fun b hb=>by cases hb⟩
 ·exact ⟨[B],.inr ⟨B,rfl,h2⟩,fun b hb=>by rw [List.mem_singleton] at hb;omega⟩
theorem IntsL.ints {w : World} {v : Value} {xs : List Int} {L : List Nat} (h : IntsL w v xs L) : Ints (Old w) w v xs:=by
 rcases h with ⟨rfl,rfl,_⟩ | ⟨B,_,h⟩
 ·exact ⟨_,_,rfl,fun i x hi=>by cases hi⟩
 ·exact h.old
theorem IntsL.lt {w : World} {v : Value} {xs : List Int} {L : List Nat} (h : IntsL w v xs L) : ∀ b ∈ L,b < w.heap.size:=by
 rcases h with ⟨_,_,rfl⟩ | ⟨B,rfl,h⟩
 ·intro b hb;cases hb
 ·intro b hb;rw [List.mem_singleton] at hb;subst hb;exact h.lt
theorem IntsL.ext {w w' : World} {v : Value} {xs : List Int} {L : List Nat} (h : IntsL w v xs L) (hx : Ext w w') : IntsL w' v xs L:=h.imp id fun ⟨B,h1,h2⟩=>⟨B,h1,h2.ext hx⟩
theorem IntsL.chg {w w' : World} {v : Value} {xs : List Int} {L M : List Nat} (h : IntsL w v xs L) (hx : Chg M w w') (hm : ∀ b ∈ L,b ∉ M) : IntsL w' v xs L:=by
 rcases h with h | ⟨B,rfl,h⟩
 ·exact .inl h
 ·exact .inr ⟨B,rfl,h.chg hx (hm B (by simp))⟩
def MarkedI (x : Int) (xs : List Int) : Prop:=∀ i : Nat,i < xs.length → xs[i]? = some (x + i)
theorem markIntS_l (v : Value) (ps : List Int) (L : List Nat) (w : World) (h : IntsL w v ps L) (hn : ps.length ≤ 1048576) :
  Calls Tryz.prog 100 #[v,.int .i64 1] w (fun e w'=>e = .returned (.int .i64 (1 + ps.length)) ∧ Chg L w w' ∧ ∃ qs,IntsL w' v qs L ∧ qs.length = ps.length ∧ MarkedI 1 qs):=by
 rcases h with ⟨rfl,rfl,rfl⟩ | ⟨B,rfl,h⟩
 ·go_enter Tryz.func100,Tryz.ntmps100
  go_wp2
  go_loop [1,5] (fun y i=>i = .int .i64 0 ∧ y = .int .i64 1) (fun _ i=>0)
  case atStart=>exact ⟨rfl,rfl⟩
  case round =>
   obtain ⟨rfl,rfl⟩:=hrel
   go_wp2
   go_ret
   exact ⟨rfl,Chg.refl _ _,[],.inl ⟨rfl,rfl,rfl⟩,rfl,fun i hi=>by simp at hi⟩
 ·refine (markIntS_c v ps B 1 w h hn (by omega) (by omega)).mono ?_
  rintro e w' ⟨rfl,hc,qs,h1,h2,h3⟩
  exact ⟨rfl,hc,qs,.inr ⟨B,rfl,h1⟩,h2,fun i hi=>h3 i (by omega)⟩
theorem heldIntS_l (v : Value) (ps : List Int) (L : List Nat) (w : World) (h : IntsL w v ps L) (hn : ps.length ≤ 1048576) (hm : MarkedI 1 ps) :
  Calls Tryz.prog 102 #[v,.int .i64 1] w (Ret w (.int .i64 (1 + ps.length))):=by
 rcases h with ⟨rfl,rfl,rfl⟩ | ⟨B,rfl,h⟩
 ·go_enter Tryz.func102,Tryz.ntmps102
  go_wp2
  go_loop [1,5] (fun y i=>i = .int .i64 0 ∧ y = .int .i64 1) (fun _ i=>0)
  case atStart=>exact ⟨rfl,rfl⟩
  case round =>
   obtain ⟨rfl,rfl⟩:=hrel
   go_wp2
   go_ret
   exact ⟨rfl,ext_refl _⟩
 ·exact heldIntS_c v ps B 1 w h hn (by omega) (by omega) hm
end Go.Bu
namespace Go.Bu
open Go Go.RowKit Go.Plan Go.Proofs
def PairL (w : World) (v : Value) (p : Pair) (M : List Nat) : Prop:=(v = nilPair ∧ p = pair0 ∧ M = []) ∨ ∃ f d g e L K,v = .agg #[f,d,g,e,.int .i64 p.lost] ∧ OwnStore w f d p.A L ∧ OwnStore w g e p.B K ∧ (L ++ K).Nodup ∧ M = L ++ K ∧ Shape4 p.A ∧ Shape4 p.B
section
variable {w w' : World} {v : Value} {p : Pair} {M N : List Nat} {base : Nat}
theorem PairO.l (h : PairO base w v p) : ∃ M,PairL w v p M ∧ ∀ b ∈ M,base ≤ b:=by
 rcases h with ⟨h1,h2⟩ | ⟨f,d,g,e,L,K,h1,h2,h3,h4,h5,h6,h7⟩
 ·exact ⟨[],.inl ⟨h1,h2,rfl⟩,fun b hb=>by cases hb⟩
 ·exact ⟨L ++ K,.inr ⟨f,d,g,e,L,K,h1,h2,h3,h4,rfl,h6,h7⟩,h5⟩
theorem PairL.ext (h : PairL w v p M) (hx : Ext w w') : PairL w' v p M:=h.imp id fun ⟨f,d,g,e,L,K,h1,h2,h3,h4⟩=>⟨f,d,g,e,L,K,h1,h2.ext hx,h3.ext hx,h4⟩
theorem PairL.chg (h : PairL w v p M) (hx : Chg N w w') (hm : ∀ b ∈ M,b ∉ N) : PairL w' v p M:=h.imp id fun ⟨f,d,g,e,L,K,h1,h2,h3,h4,h5,h6⟩ =>
 ⟨f,d,g,e,L,K,h1,h2.chg hx (fun b hb=>hm b (by rw [h5];exact List.mem_append_left _ hb)),h3.chg hx (fun b hb=>hm b (by rw [h5];exact List.mem_append_right _ hb)),h4,h5,h6⟩
theorem PairL.lt (h : PairL w v p M) : ∀ b ∈ M,b < w.heap.size:=by
 rcases h with ⟨_,_,rfl⟩ | ⟨f,d,g,e,L,K,_,h2,h3,_,rfl,_⟩
 ·intro b hb;cases hb
 ·intro b hb
  rcases List.mem_append.1 hb with hb | hb
  ·exact h2.lt b hb
  ·exact h3.lt b hb
theorem PairL.forms (h : PairL w v p M) : ∃ a n c b m k a' n' c' b' m' k',v = .agg #[.slice a n c,.slice b m k,.slice a' n' c',.slice b' m' k',.int .i64 p.lost]:=by
 rcases h with ⟨rfl,rfl,_⟩ | ⟨f,d,g,e,L,K,rfl,h2,h3,_⟩
 ·exact ⟨none,0,0,none,0,0,none,0,0,none,0,0,rfl⟩
 ·obtain ⟨a,n,c,b,m,k,rfl,rfl⟩:=h2.forms
  obtain ⟨a',n',c',b',m',k',rfl,rfl⟩:=h3.forms
  exact ⟨a,n,c,b,m,k,a',n',c',b',m',k',rfl⟩
theorem Shape4.small {s : Store} (h : Shape4 s) : Small s:=⟨by rw [h.flash];omega,fun b hb=>by rw [h.pages b hb];omega,by rw [h.disk];omega⟩
theorem small0 : Small ⟨[],[]⟩:=⟨by simp,fun b hb=>(by cases hb),by simp⟩
theorem PairL.small (h : PairL w v p M) : Small p.A ∧ Small p.B:=by
 rcases h with ⟨_,rfl,_⟩ | ⟨f,d,g,e,L,K,_,_,_,_,_,h6,h7⟩
 ·exact ⟨small0,small0⟩
 ·exact ⟨h6.small,h7.small⟩
theorem storeV0 (w : World) : StoreV w (.slice none 0 0) (.slice none 0 0) ⟨[],[]⟩:=⟨⟨_,_,rfl,fun i x hi=>by cases hi⟩,⟨_,_,rfl,fun i x hi=>by cases hi⟩⟩
theorem PairL.read {f d g e : Value} {l : Int} (h : PairL w (.agg #[f,d,g,e,.int .i64 l]) p M) : l = p.lost ∧ StoreV w f d p.A ∧ StoreV w g e p.B:=by
 rcases h with ⟨h1,rfl,_⟩ | ⟨f',d',g',e',L,K,h1,h2,h3,_⟩
 ·unfold nilPair at h1
  injection h1 with h1
  simp at h1
  obtain ⟨rfl,rfl,rfl,rfl,rfl⟩:=h1
  exact ⟨rfl,storeV0 w,storeV0 w⟩
 ·injection h1 with h1
  simp at h1
  obtain ⟨rfl,rfl,rfl,rfl,rfl⟩:=h1
  exact ⟨rfl,⟨h2.flash,h2.disk⟩,h3.flash,h3.disk⟩
end
theorem eqPair_l (f d g e f' d' g' e' : Value) (l l' : Int) (p : Pair) (M N : List Nat) (w : World) (h : PairL w (.agg #[f,d,g,e,.int .i64 l]) p M) (h' : PairL w (.agg #[f',d',g',e',.int .i64 l']) p N) :
  Calls Tryz.prog 27 #[.agg #[f,d,g,e,.int .i64 l],.agg #[f',d',g',e',.int .i64 l']] w (Ret w (.bool true)):=by
 obtain ⟨rfl,hA,hB⟩:=h.read
 obtain ⟨rfl,hA',hB'⟩:=h'.read
 have:=eqPair_c f f' d d' g g' e e' p p w hA.1 hA'.1 hA.2 hA'.2 (h.small.1.fits _) (h.small.1.fitsI _) hB.1 hB'.1 hB.2 hB'.2 (h.small.2.fits _) (h.small.2.fitsI _)
 rw [pairEq_refl] at this
 exact this
def PairH (w : World) (v : Value) (M : List Nat) (k : Int) : Prop:=(v = nilPair ∧ M = [] ∧ k = 1) ∨ ∃ f d g e n s t L K,v = .agg #[f,d,g,e,.int .i64 n] ∧ OwnStore w f d s L ∧ OwnStore w g e t K ∧ M = L ++ K ∧ Marked s 1 ∧ Marked t 91 ∧ k = 181
theorem PairH.ext {w w' : World} {v : Value} {M : List Nat} {k : Int} (h : PairH w v M k) (hx : Ext w w') : PairH w' v M k:=h.imp id fun ⟨f,d,g,e,n,s,t,L,K,h1,h2,h3,h4⟩=>⟨f,d,g,e,n,s,t,L,K,h1,h2.ext hx,h3.ext hx,h4⟩
theorem PairH.k {w : World} {v : Value} {M : List Nat} {k : Int} (h : PairH w v M k) : 0 ≤ k ∧ k ≤ 181:=by
 rcases h with ⟨_,_,rfl⟩ | ⟨f,d,g,e,n,s,t,L,K,_,_,_,_,_,_,rfl⟩ <;> omega
theorem nilInt {w : World} : Ints (Old w) w (.slice none 0 0) []:=⟨_,_,rfl,fun i x hi=>by cases hi⟩
theorem markNilB (fn : Nat) (hfn : fn = 99 ∨ fn = 101 ∨ fn = 100 ∨ fn = 102) (x : Int) (w : World) : Calls Tryz.prog fn #[.slice none 0 0,.int .i64 x] w (Ret w (.int .i64 x)):=by
 rcases hfn with rfl | rfl | rfl | rfl
 ·go_enter Tryz.func99,Tryz.ntmps99
  go_wp2
  go_loop [1,5] (fun y i=>i = .int .i64 0 ∧ y = .int .i64 x) (fun _ i=>0)
  case atStart=>exact ⟨rfl,rfl⟩
  case round =>
   obtain ⟨rfl,rfl⟩:=hrel
   go_wp2
   go_ret
   exact ⟨rfl,ext_refl _⟩
 ·go_enter Tryz.func101,Tryz.ntmps101
  go_wp2
  go_loop [1,5] (fun y i=>i = .int .i64 0 ∧ y = .int .i64 x) (fun _ i=>0)
  case atStart=>exact ⟨rfl,rfl⟩
  case round =>
   obtain ⟨rfl,rfl⟩:=hrel
   go_wp2
   go_ret
   exact ⟨rfl,ext_refl _⟩
 ·go_enter Tryz.func100,Tryz.ntmps100
  go_wp2
  go_loop [1,5] (fun y i=>i = .int .i64 0 ∧ y = .int .i64 x) (fun _ i=>0)
  case atStart=>exact ⟨rfl,rfl⟩
  case round =>
   obtain ⟨rfl,rfl⟩:=hrel
   go_wp2
   go_ret
   exact ⟨rfl,ext_refl _⟩
 ·go_enter Tryz.func102,Tryz.ntmps102
  go_wp2
  go_loop [1,5] (fun y i=>i = .int .i64 0 ∧ y = .int .i64 x) (fun _ i=>0)
  case atStart=>exact ⟨rfl,rfl⟩
  case round =>
   obtain ⟨rfl,rfl⟩:=hrel
   go_wp2
   go_ret
   exact ⟨rfl,ext_refl _⟩
theorem markNilS (w : World) : Calls Tryz.prog 58 #[.agg #[.slice none 0 0,.slice none 0 0],.int .i64 1] w (Ret w (.int .i64 1)):=by
 go_enter Tryz.func58,Tryz.ntmps58
 go_wp2_with fail
 refine (markNilB _ (by simp) 1 _).mono ?_;rintro e1 w1 ⟨rfl,hx1⟩
 have G0:=keep_ext hx1 (hg_new (b:=w.heap.size) rfl)
 obtain ⟨g0,gf0⟩:=cellsK G0
 have X1:=ext_trans (ext_alloc (ext_refl w) _) hx1
 go_wp2_with fail
 refine (markNilB _ (by simp) 1 _).mono ?_;rintro e2 w2 ⟨rfl,hx2⟩
 go_wp2_with fail
 go_ret
 exact ⟨rfl,ext_trans X1 hx2⟩
theorem heldNilS (w : World) : Calls Tryz.prog 59 #[.agg #[.slice none 0 0,.slice none 0 0],.int .i64 1] w (Ret w (.int .i64 1)):=by
 go_enter Tryz.func59,Tryz.ntmps59
 go_wp2_with fail
 refine (markNilB _ (by simp) 1 _).mono ?_;rintro e1 w1 ⟨rfl,hx1⟩
 have G0:=keep_ext hx1 (hg_new (b:=w.heap.size) rfl)
 obtain ⟨g0,gf0⟩:=cellsK G0
 have X1:=ext_trans (ext_alloc (ext_refl w) _) hx1
 go_wp2_with fail
 refine (markNilB _ (by simp) 1 _).mono ?_;rintro e2 w2 ⟨rfl,hx2⟩
 go_wp2_with fail
 go_ret
 exact ⟨rfl,ext_trans X1 hx2⟩
theorem markNilP (w : World) : Calls Tryz.prog 28 #[nilPair,.int .i64 1] w (Ret w (.int .i64 1)):=by
 unfold nilPair
 go_enter Tryz.func28,Tryz.ntmps28
 go_wp2_with fail
 refine (markNilS _).mono ?_;rintro e1 w1 ⟨rfl,hx1⟩
 have G0:=keep_ext hx1 (hg_new (b:=w.heap.size) rfl)
 obtain ⟨g0,gf0⟩:=cellsK G0
 have X1:=ext_trans (ext_alloc (ext_refl w) _) hx1
 go_wp2_with fail
 refine (markNilS _).mono ?_;rintro e2 w2 ⟨rfl,hx2⟩
 go_wp2_with fail
 go_ret
 exact ⟨rfl,ext_trans X1 hx2⟩
theorem heldNilP (w : World) : Calls Tryz.prog 29 #[nilPair,.int .i64 1] w (Ret w (.int .i64 1)):=by
 unfold nilPair
 go_enter Tryz.func29,Tryz.ntmps29
 go_wp2_with fail
 refine (heldNilS _).mono ?_;rintro e1 w1 ⟨rfl,hx1⟩
 have G0:=keep_ext hx1 (hg_new (b:=w.heap.size) rfl)
 obtain ⟨g0,gf0⟩:=cellsK G0
 have X1:=ext_trans (ext_alloc (ext_refl w) _) hx1
 go_wp2_with fail
 refine (heldNilS _).mono ?_;rintro e2 w2 ⟨rfl,hx2⟩
 go_wp2_with fail
 go_ret
 exact ⟨rfl,ext_trans X1 hx2⟩
theorem markPair_l (v : Value) (p : Pair) (M : List Nat) (w : World) (h : PairL w v p M) :
  Calls Tryz.prog 28 #[v,.int .i64 1] w (fun e w'=>∃ k,e = .returned (.int .i64 k) ∧ Chg M w w' ∧ PairH w' v M k):=by
 rcases h with ⟨rfl,rfl,rfl⟩ | ⟨f,d,g,e,L,K,rfl,h2,h3,h4,rfl,h6,h7⟩
 ·exact (markNilP w).mono fun e w' ⟨he,hx⟩=>⟨1,he,Chg.of_ext hx,.inl ⟨rfl,rfl,rfl⟩⟩
 ·exact (markPair_c f d g e p.lost p.A p.B L K 1 w h2 h3 h4 h6 h7 (by omega) (by omega)).mono fun r w' ⟨he,hc,s,t,o1,o2,m1,m2⟩=>⟨181,he,hc,.inr ⟨f,d,g,e,p.lost,s,t,L,K,rfl,o1,o2,rfl,m1,m2,rfl⟩⟩
theorem heldPair_l (v : Value) (M : List Nat) (k : Int) (w : World) (h : PairH w v M k) : Calls Tryz.prog 29 #[v,.int .i64 1] w (Ret w (.int .i64 k)):=by
 rcases h with ⟨rfl,rfl,rfl⟩ | ⟨f,d,g,e,n,s,t,L,K,rfl,o1,o2,rfl,m1,m2,rfl⟩
 ·exact heldNilP w
 ·exact heldPair_c f d g e n s t L K 1 w o1 o2 m1 m2 (by omega) (by omega)
end Go.Bu
namespace Go.Bu
open Go Go.RowKit Go.Plan Go.Proofs
def PairR (w : World) (v : Value) (p : Pair) : Prop:=∃ f d g e,v = .agg #[f,d,g,e,.int .i64 p.lost] ∧ StoreV w f d p.A ∧ StoreV w g e p.B ∧ Small p.A ∧ Small p.B
section
variable {w w' : World} {v : Value} {p : Pair} {base N : Nat}
theorem PairR.ext (h : PairR w v p) (hx : Ext w w') : PairR w' v p:=let ⟨f,d,g,e,h1,h2,h3,h4⟩:=h;⟨f,d,g,e,h1,h2.ext hx,h3.ext hx,h4⟩
theorem PairR.forms (h : PairR w v p) : ∃ a n c b m k a' n' c' b' m' k',v = .agg #[.slice a n c,.slice b m k,.slice a' n' c',.slice b' m' k',.int .i64 p.lost]:=by
 obtain ⟨f,d,g,e,rfl,h2,h3,_⟩:=h
 obtain ⟨a,c,rfl⟩:=h2.1.form
 obtain ⟨b,k,rfl⟩:=h2.2.form
 obtain ⟨a',c',rfl⟩:=h3.1.form
 obtain ⟨b',k',rfl⟩:=h3.2.form
 exact ⟨_,_,_,_,_,_,_,_,_,_,_,_,rfl⟩
theorem PairR.read {f d g e : Value} {l : Int} (h : PairR w (.agg #[f,d,g,e,.int .i64 l]) p) : l = p.lost ∧ StoreV w f d p.A ∧ StoreV w g e p.B ∧ Small p.A ∧ Small p.B:=by
 obtain ⟨f',d',g',e',h1,h2⟩:=h
 injection h1 with h1
 simp at h1
 obtain ⟨rfl,rfl,rfl,rfl,rfl⟩:=h1
 exact ⟨rfl,h2⟩
theorem PairO.r (h : PairO base w v p) : PairR w v p:=by
 rcases h with ⟨rfl,rfl⟩ | ⟨f,d,g,e,L,K,h1,h2,h3,_,_,h6,h7⟩
 ·exact ⟨_,_,_,_,rfl,storeV0 w,storeV0 w,small0,small0⟩
 ·exact ⟨f,d,g,e,h1,⟨h2.flash,h2.disk⟩,⟨h3.flash,h3.disk⟩,h6.small,h7.small⟩
theorem PairD.r (h : PairD N v w) : ∃ p,PairR w v p:=by
 obtain ⟨a,b,p,rfl,h1,h2,_,_,h5,h6⟩:=h
 exact ⟨p,_,_,_,_,rfl,⟨h1.fl,h1.dk⟩,⟨h2.fl,h2.dk⟩,h5,h6⟩
end
theorem PairD.chg {w w' : World} {v : Value} {N : Nat} {L : List Nat} (h : PairD N v w) (hx : Chg L w w') (hL : ∀ b ∈ L,b < N) : PairD N v w':=by
 obtain ⟨a,b,p,rfl,h1,h2,h3,h4,h5,h6⟩:=h
 exact ⟨a,b,p,rfl,h1.chg hx fun x hm hl=>by have:=h4 x (List.mem_append_left _ hm);have:=hL x hl;omega,h2.chg hx fun x hm hl=>by have:=h4 x (List.mem_append_right _ hm);have:=hL x hl;omega,h3,h4,h5,h6⟩
def PairRet (w : World) (p : Pair) (e : Ending) (w' : World) : Prop:=∃ v,e = .returned v ∧ Ext w w' ∧ PairR w' v p
theorem PairΦ.r {w w' : World} {p : Pair} {e : Ending} (h : PairΦ w p e w') : PairRet w p e w':=let ⟨v,h1,h2,h3⟩:=h;⟨v,h1,h2,h3.r⟩
theorem PairRet.to {w w' : World} {p : Pair} {e : Ending} (h : PairRet w p e w') : ∃ v,e = .returned v ∧ RetC w (fun _ _ v w'=>PairR w' v p) v w':=h
theorem lqPair_r {v u : Value} {p q : Pair} {w : World} (h : PairR w v p) (k : PairR w u q) : Calls Tryz.prog 12 #[v,u] w (Ret w (.bool (pairEq p q))):=by
 obtain ⟨f,d,g,e,rfl,h1,h2,h3,h4⟩:=h
 obtain ⟨f',d',g',e',rfl,k1,k2,k3,k4⟩:=k
 exact lqPair_c f f' d d' g g' e e' p q w h1.1 k1.1 h1.2 k1.2 (h3.fits _) (h3.fitsI _) h2.1 k2.1 h2.2 k2.2 (h4.fits _) (h4.fitsI _)
theorem lqPair_t {v u : Value} {p : Pair} {w : World} (h : PairR w v p) (k : PairR w u p) : Calls Tryz.prog 12 #[v,u] w (Ret w (.bool true)):=by
 have:=lqPair_r h k
 rwa [pairEq_refl] at this
theorem specPairOk_r {v : Value} {p : Pair} {w : World} (h : PairR w v p) : Calls Tryz.prog 14 #[v] w (Ret w (.bool (pairOkB p))):=by
 obtain ⟨f,d,g,e,rfl,h1,h2,h3,h4⟩:=h
 exact specPairOk_c f d g e p w h1 h2 h3.1 h4.1
theorem Bytes.ext {w w' : World} {v : Value} {xs : List Nat} (h : Bytes (Old w) w v xs) (he : Ext w w') : Bytes (Old w') w' v xs:=Sl.same (plain_kept _) h (same_old he) (old_ext he)
def DrawnP (w : World) (Φ : Value → Value → Prop) (e : Ending) (w' : World) : Prop:=∃ v u p,e = .returned u ∧ Ext w w' ∧ PairR w' v p ∧ Φ v u
set_option maxRecDepth 20000 in
set_option maxHeartbeats 4000000 in
theorem drawPairLose_c (v : Value) (xs : List Nat) (w : World) (h : Bytes (Old w) w v xs) (hs : ∀ x ∈ xs,x < 256) (hn : xs.length ≤ 1048576) (hcap : ∀ a n c,v = .slice a n c → n ≤ c) :
  Calls Tryz.prog 21 #[v] w (DrawnP w fun v u=>∃ which : Int,1 ≤ which ∧ which ≤ 3 ∧ u = .tuple #[v,.int .i64 which]):=by
 have HB:=Lib.hid h
 go_enter Tryz.func21,Tryz.ntmps21
 go_wp2_with fail
 refine (l6Open_c v xs _ (HB.out.ext (ext_alloc (ext_refl _) _)) hs hn hcap).mono ?_;rintro e1 w1 ⟨R,bv,ys,rfl,hRw,hx1,hr⟩
 have hR:=hr.lt
 have HK : Rk w1 R (100 + (420 + 1 + 1 + 57 * 7) + 1 + 8 * 36 + 1):=⟨bv,ys,0,hr,by omega⟩
 have G2:=keep_ext hx1 (hg_new (b:=w.heap.size) rfl)
 have X1:=ext_trans (ext_alloc (ext_refl w) _) hx1
 have sR : w.heap.size < R:=by simp at hRw;omega
 clear hx1 hr HB
 go_wp2_with fail
 refine (l72Pair_c R 100 _ HK).mono ?_;rintro e2 w2 ⟨v2,rfl,C,HK2,HP⟩
 replace G2:=C.keep G2 (by simp;omega)
 have X2 : Ext w w2:=C.ext X1 (by simp;omega)
 clear HK
 obtain ⟨p,hp⟩:=HP.r
 obtain ⟨a,n,c,b,m,k,a',n',c',b',m',k',rfl⟩:=hp.forms
 have HD:=Lib.hid HP
 clear C HP hp
 have l2:=heap_lt G2
 go_wp2_with fail
 refine (pick_k R 2 _ (K:=99) HK2).mono ?_;rintro e3 w3 ⟨r1,rfl,p0,p1,C,HK3⟩
 replace G2:=C.keep G2 (by simp;omega)
 have X3:=C.ext X2 (by simp;omega)
 have hr1:=p1 (by omega)
 replace HD:=Lib.hid (HD.out.chg C (by simp;omega))
 clear HK2 X2 C p1
 go_wp2_with fail
 refine (pick_k R 24 _ (K:=98) HK3).mono ?_;rintro e4 w4 ⟨r2,rfl,q0,q1,C,HK4⟩
 replace G2:=C.keep G2 (by simp;omega)
 have X4:=C.ext X3 (by simp;omega)
 have hr2:=q1 (by omega)
 replace HD:=Lib.hid (HD.out.chg C (by simp;omega))
 clear HK3 X3 C q1
 obtain ⟨g2,gf2⟩:=cellsK G2
 obtain ⟨w8,hw8,G28,hC8⟩:=sets5 G2 rfl (.slice a n c) (.slice b m k) (.slice a' n' c') (.slice b' m' k') (.int .i64 p.lost)
 go_wp2_with fail
 try rw [hw8]
 have X8:=hC8.ext X4 (by simp)
 have HD8:=HD.out.chg hC8 (by simp;omega)
 clear g2 gf2 hw8
 obtain ⟨g2,gf2⟩:=cellsK G28
 obtain ⟨q,hq⟩:=HD8.r
 exact bodyPost_ret (v:=.tuple #[.agg #[.slice a n c,.slice b m k,.slice a' n' c',.slice b' m' k',.int .i64 p.lost],.int .i64 (1 + r1 + r2 / 23)]) (by simp [results,Tryz.results21,go_sem,g2,gf2]) rfl ⟨_,_,q,rfl,X8,hq,1 + r1 + r2 / 23,by omega,by omega,rfl⟩
set_option maxRecDepth 20000 in
set_option maxHeartbeats 4000000 in
theorem drawPairMend_c (v : Value) (xs : List Nat) (w : World) (h : Bytes (Old w) w v xs) (hs : ∀ x ∈ xs,x < 256) (hn : xs.length ≤ 1048576) (hcap : ∀ a n c,v = .slice a n c → n ≤ c) :
  Calls Tryz.prog 30 #[v] w (fun e w'=>∃ p,PairRet w p e w'):=by
 have HB:=Lib.hid h
 go_enter Tryz.func30,Tryz.ntmps30
 go_wp2_with fail
 refine (l6Open_c v xs _ (HB.out.ext (ext_alloc (ext_refl _) _)) hs hn hcap).mono ?_;rintro e1 w1 ⟨R,bv,ys,rfl,hRw,hx1,hr⟩
 have hR:=hr.lt
 have HK : Rk w1 R (100 + (420 + 1 + 1 + 57 * 7) + 1 + 8 * 36 + 1):=⟨bv,ys,0,hr,by omega⟩
 have G2:=keep_ext hx1 (hg_new (b:=w.heap.size) rfl)
 have X1:=ext_trans (ext_alloc (ext_refl w) _) hx1
 have sR : w.heap.size < R:=by simp at hRw;omega
 clear hx1 hr HB
 go_wp2_with fail
 refine (l72Pair_c R 100 _ HK).mono ?_;rintro e2 w2 ⟨v2,rfl,C,HK2,HP⟩
 replace G2:=C.keep G2 (by simp;omega)
 have X2 : Ext w w2:=C.ext X1 (by simp;omega)
 clear HK
 obtain ⟨a,b,p,rfl,hA,hB,hd,hN,sA,sB⟩:=HP
 have l2:=heap_lt G2
 have s1:=C.size
 have HDis:=Lib.hid hd
 have HN : Hid (∀ x ∈ a.L ++ b.L,R < x ∧ x < w2.heap.size):=Lib.hid fun x hm=>⟨by have:=hN x hm;omega,(List.mem_append.1 hm).elim (hA.lt x) (hB.lt x)⟩
 have HSm:=Lib.hid (And.intro sA sB)
 have HO:=Lib.hid (And.intro hA hB)
 have hPO:=fun (w' : World) (hx : Ext w2 w')=>specPairOk_c (a.fv p.A) (a.dv p.A) (b.fv p.B) (b.dv p.B) p w' ⟨(hA.ext hx).fl,(hA.ext hx).dk⟩ ⟨(hB.ext hx).fl,(hB.ext hx).dk⟩ sA.1 sB.1
 clear C hA hB hd hN sA sB
 by_cases hok : pairOkB p = true
 ·rw [hok] at hPO
  have HOK:=Lib.hid hok
  obtain ⟨HPA,HPB⟩ : StoreP p.A ∧ StoreP p.B:=by obtain ⟨_,h1,h2⟩:=pOk_iff.1 hok;exact ⟨storeOk_P h1,storeOk_P h2⟩
  have q1 : a.fv p.A = a.f4:=by simp only [SC.fv,HPA.lens.1];rfl
  have q2 : a.dv p.A = a.d6:=by simp only [SC.dv,HPA.lens.2];rfl
  have q3 : b.fv p.B = b.f4:=by simp only [SC.fv,HPB.lens.1];rfl
  have q4 : b.dv p.B = b.d6:=by simp only [SC.dv,HPB.lens.2];rfl
  rw [q1,q2,q3,q4] at hPO ⊢
  clear q1 q2 q3 q4 hok
  have HPP:=Lib.hid (And.intro HPA HPB)
  clear HPA HPB
  go_wp2_with fail
  refine (hPO _ (ext_alloc (ext_refl _) _)).mono ?_;rintro e3 w3 ⟨rfl,hx3⟩
  have X23:=ext_trans (ext_alloc (ext_refl w2) _) hx3
  have X3:=ext_trans X2 X23
  have G4:=keep_ext hx3 (hg_new (b:=w2.heap.size) rfl)
  replace G2:=keep_ext X23 G2
  replace HO:=Lib.hid (And.intro (HO.out.1.ext X23) (HO.out.2.ext X23))
  have HK3:=HK2.ext X23
  clear hPO hx3 X2 X23 HK2
  go_wp2_with fail
  refine (pick_k R 3 _ (K:=99) HK3).mono ?_;rintro e4 w4 ⟨r,rfl,p0,p1,C,HK4⟩
  have X4:=C.ext X3 (by simp;omega)
  replace G2:=C.keep G2 (by simp;omega)
  replace G4:=C.keep G4 (by simp;omega)
  replace HO:=Lib.hid (And.intro (HO.out.1.chg C fun x hm hx=>by have:=HN.out x (List.mem_append_left _ hm);simp at hx;omega) (HO.out.2.chg C fun x hm hx=>by have:=HN.out x (List.mem_append_right _ hm);simp at hx;omega))
  have HK : Rk w4 R (94 + 1 + 1 + 1 + 1):=HK4.less (by omega)
  clear C X3 HK3 HK4
  have hn4 : w2.heap.size ≠ R:=by omega
  have l4:=heap_lt G4
  by_cases hr0 : 0 < r
  ·go_wp2_with fail
   obtain ⟨g4,gf4⟩:=cellsK G4
   refine wp_region_rd HK [2,5,7,9] [0,1,4,6,8,2,3,5,7,9,10] [] [11,12] (by kernel_rfl) (by kernel_rfl) ?late ?_
   case late=>exact fun f hf=>absurd hf List.not_mem_nil
   refine Rob.y (v:=?_) rfl rfl (fun w1 hx hH=>?_) ?_;rotate_left
   ·(obtain ⟨z4,zf4⟩:=cellsK (hx.keep G4 (by simp;omega)));go_simp;first | done | rfl
   simp only [Act.put,slA,slB,slC]
   iterate 4
    refine Rob.y (v:=?_) rfl rfl (fun w1 hx hH=>?_) ?_;rotate_left
    ·go_simp;first | done | rfl | exact (Bool.not_not _).symm
    simp only [Act.put,slA,slB,slC]
   refine Rob.pick (m:=6) rfl rfl rfl (by omega) (fun _ _ h hx=>h.trans hx) (fun w1 hx HK hH=>?_) (fun lo2 hi2 r2 hrl2 hru2 hlo2 hhi2=>?_)
   ·unfold RunTo;go_simp;exact (pick_k R _ _ HK).mono fun e w' h=>h.run
   simp only [Act.put,slA,slB,slC]
   refine Rob.y (v:=?_) rfl rfl (fun w1 hx hH=>?_) ?_;rotate_left
   ·go_simp;first | done | rfl | exact (Bool.not_not _).symm
   simp only [Act.put,slA,slB,slC]
   refine Rob.pick (m:=10) rfl rfl rfl (by omega) (fun _ _ h hx=>h.trans hx) (fun w1 hx HK hH=>?_) (fun lo5 hi5 r5 hrl5 hru5 hlo5 hhi5=>?_)
   ·unfold RunTo;go_simp;exact (pick_k R _ _ HK).mono fun e w' h=>h.run
   simp only [Act.put,slA,slB,slC]
   refine Rob.pick (m:=4) rfl rfl rfl (by omega) (fun _ _ h hx=>h.trans hx) (fun w1 hx HK hH=>?_) (fun lo7 hi7 r7 hrl7 hru7 hlo7 hhi7=>?_)
   ·unfold RunTo;go_simp;exact (pick_k R _ _ HK).mono fun e w' h=>h.run
   simp only [Act.put,slA,slB,slC]
   refine Rob.pick (m:=2) rfl rfl rfl (by omega) (fun _ _ h hx=>h.trans hx) (fun w1 hx HK hH=>?_) (fun lo9 hi9 r9 hrl9 hru9 hlo9 hhi9=>?_)
   ·unfold RunTo;go_simp;exact (pick_k R _ _ HK).mono fun e w' h=>h.run
   simp only [Act.put,slA,slB,slC]
   refine Rob.y (v:=?_) rfl rfl (fun w1 hx hH=>?_) ?_;rotate_left
   ·go_simp;first | done | rfl | exact (Bool.not_not _).symm
   simp only [Act.put,slA,slB,slC]
   refine fin_tailC (fun w6 hx6 HK6 _=>?_)
   simp only [dstOf,List.getElem?_cons_succ,List.getElem?_cons_zero,Option.bind_some,Act.put,slA,slB,slC,List.filterMap_cons,List.filterMap_nil]
   have hb2 : r2 < 6:=hru2 (by omega)
   have hb5 : r5 < 10:=hru5 (by omega)
   have hb7 : r7 < 4:=hru7 (by omega)
   have X6:=hx6.ext X4 (by simp;omega)
   replace G2:=hx6.keep G2 (by simp;omega)
   replace G4:=hx6.keep G4 (by simp;omega)
   replace HO:=Lib.hid (And.intro (HO.out.1.chg hx6 fun x hm hx=>by have:=HN.out x (List.mem_append_left _ hm);simp at hx;omega) (HO.out.2.chg hx6 fun x hm hx=>by have:=HN.out x (List.mem_append_right _ hm);simp at hx;omega))
   have hcl:=fun (torn : Bool)=>l23Put_c a b p (1 + r2) r5 r7 torn w6 HO.out.1 HO.out.2 HDis.out HPP.out.1 HPP.out.2 ⟨by omega,by omega⟩
   have hok:=fun (torn : Bool)=>pOk_put HOK.out (1 + r2) r5 r7 torn
   clear hru2 hru5 hru7 hru9 hx6 g4 gf4 HO HPP X4
   clear HOK
   go_wp2_with fail
   refine (hcl _).mono ?_;rintro e7 w7 ⟨rfl,hC7,hA7,hB7⟩
   have hok7:=hok (r9 == 0)
   generalize putV p (1 + r2) r5 r7 (r9 == 0) = p7 at *
   have hX1 : Ext w w7:=hC7.ext X6 (fun x hx=>by have:=HN.out x hx;omega)
   replace G2:=hC7.keep G2 (fun hm=>by have:=HN.out _ hm;omega)
   replace G4:=hC7.keep G4 (fun hm=>by have:=HN.out _ hm;omega)
   have HOK:=Lib.hid hok7
   obtain ⟨w8,hw8,G48,hC8⟩:=sets5 G4 rfl a.f4 a.d6 b.f4 b.d6 (.int .i64 p7.lost)
   obtain ⟨g4,gf4⟩:=cellsK G4
   have HO:=Lib.hid (And.intro (hA7.chg hC8 fun x hm hx=>by have:=HN.out x (List.mem_append_left _ hm);simp at hx;omega) (hB7.chg hC8 fun x hm hx=>by have:=HN.out x (List.mem_append_right _ hm);simp at hx;omega))
   have X8' : Ext w w8:=hC8.ext hX1 (by simp;omega)
   replace G2:=hC8.keep G2 (by simp;omega)
   clear hcl hok hok7 hC7 hA7 hB7 HK6 X6 hX1 hC8
   unfold pv
   obtain ⟨w9,hw9,G29,hC9⟩:=sets5 G2 rfl a.f4 a.d6 b.f4 b.d6 (.int .i64 p7.lost)
   obtain ⟨g2,gf2⟩:=cellsK G2
   obtain ⟨g8,gf8⟩:=cellsK G48
   have l4 : w2.heap.size < w7.heap.size:=heap_lt G4
   have X9:=hC9.ext X8' (by simp)
   have hO9:=HO.out.1.chg hC9 (fun x hm hx=>by have:=HN.out x (List.mem_append_left _ hm);simp at hx;omega)
   have hO10:=HO.out.2.chg hC9 (fun x hm hx=>by have:=HN.out x (List.mem_append_right _ hm);simp at hx;omega)
   go_wp2_with fail
   try rw [hw8]
   try rw [hw9]
   clear g2 gf2 hw9 hw8
   obtain ⟨g2,gf2⟩:=cellsK G29
   obtain ⟨HPA,HPB⟩ : StoreP p7.A ∧ StoreP p7.B:=by obtain ⟨_,h1,h2⟩:=pOk_iff.1 HOK.out;exact ⟨storeOk_P h1,storeOk_P h2⟩
   have hsm : Small p7.A ∧ Small p7.B:=by
    have h1:=HPA.shape4
    have h2:=HPB.shape4
    exact ⟨⟨by rw [h1.flash];omega,fun b hb=>by rw [h1.pages b hb];omega,by rw [h1.disk];omega⟩,by rw [h2.flash];omega,fun b hb=>by rw [h2.pages b hb];omega,by rw [h2.disk];omega⟩
   exact bodyPost_ret (v:=.agg #[a.f4,a.d6,b.f4,b.d6,.int .i64 p7.lost]) (by simp [results,Tryz.results30,go_sem,g2,gf2]) rfl ⟨p7,_,rfl,X9,_,_,_,_,rfl,hO9.at4 HPA,hO10.at4 HPB,hsm⟩
  ·have hr1 : r ≤ 0:=by omega
   obtain ⟨g2,gf2⟩:=cellsK G2
   obtain ⟨g4,gf4⟩:=cellsK G4
   obtain ⟨w8,hw8,G28,hC8⟩:=sets5 G2 rfl a.f4 a.d6 b.f4 b.d6 (.int .i64 p.lost)
   have l4:=heap_lt G4
   go_wp2_with fail
   try rw [hw8]
   have X8:=hC8.ext X4 (by simp)
   have hO8:=HO.out.1.chg hC8 (fun x hm hx=>by have:=HN.out x (List.mem_append_left _ hm);simp at hx;omega)
   have hO9:=HO.out.2.chg hC8 (fun x hm hx=>by have:=HN.out x (List.mem_append_right _ hm);simp at hx;omega)
   clear g2 gf2 hw8 g4 gf4
   obtain ⟨g2,gf2⟩:=cellsK G28
   exact bodyPost_ret (v:=.agg #[a.f4,a.d6,b.f4,b.d6,.int .i64 p.lost]) (by simp [results,Tryz.results30,go_sem,g2,gf2]) rfl ⟨p,_,rfl,X8,_,_,_,_,rfl,hO8.at4 HPP.out.1,hO9.at4 HPP.out.2,HSm.out⟩
 ·rw [show pairOkB p = false by simpa using hok] at hPO
  go_wp2_with fail
  refine (hPO _ (ext_alloc (ext_refl _) _)).mono ?_;rintro e3 w3 ⟨rfl,hx3⟩
  have X23:=ext_trans (ext_alloc (ext_refl w2) _) hx3
  have X3:=ext_trans X2 X23
  have G4:=keep_ext hx3 (hg_new (b:=w2.heap.size) rfl)
  replace G2:=keep_ext X23 G2
  replace HO:=Lib.hid (And.intro (HO.out.1.ext X23) (HO.out.2.ext X23))
  clear hPO hx3 X2 X23
  obtain ⟨g2,gf2⟩:=cellsK G2
  obtain ⟨g4,gf4⟩:=cellsK G4
  obtain ⟨w8,hw8,G28,hC8⟩:=sets5 G2 rfl (a.fv p.A) (a.dv p.A) (b.fv p.B) (b.dv p.B) (.int .i64 p.lost)
  have l4:=heap_lt G4
  go_wp2_with fail
  try rw [hw8]
  have X8:=hC8.ext X3 (by simp)
  have hO8:=HO.out.1.chg hC8 (fun x hm hx=>by have:=HN.out x (List.mem_append_left _ hm);simp at hx;omega)
  have hO9:=HO.out.2.chg hC8 (fun x hm hx=>by have:=HN.out x (List.mem_append_right _ hm);simp at hx;omega)
  clear g2 gf2 hw8 g4 gf4
  obtain ⟨g2,gf2⟩:=cellsK G28
  exact bodyPost_ret (v:=.agg #[a.fv p.A,a.dv p.A,b.fv p.B,b.dv p.B,.int .i64 p.lost]) (by simp [results,Tryz.results30,go_sem,g2,gf2]) rfl ⟨p,_,rfl,X8,_,_,_,_,rfl,⟨hO8.fl,hO8.dk⟩,⟨hO9.fl,hO9.dk⟩,HSm.out⟩
end Go.Bu
namespace Go.Bu
open Go Go.RowKit Go.Plan Go.Proofs
theorem listEq_dec : ∀ (xs ys : List Int),listEq intEq xs ys = decide (xs = ys)
 | [],[]=>rfl
 | [],y :: ys=>by simp [listEq]
 | x :: xs,[]=>by simp [listEq]
 | x :: xs,y :: ys=>by
  simp only [listEq,listEq_dec xs ys,intEq,List.cons.injEq]
  by_cases h : x = y <;> simp [h]
theorem pairV_len (p : Pair) : (pairAllV p).length ≤ 6:=by
 unfold pairAllV;split
 ·split <;> rw [allS_len] <;> omega
 ·simp
theorem allV_len (s : Store) : (allV s).length ≤ 6:=by
 unfold allV;split
 ·rw [allS_len];omega
 ·simp
theorem small_ok {s : Store} (h : storeOkB s = true) : Small s:=by
 have:=(storeOk_P h).shape4
 exact ⟨by rw [this.flash];omega,fun b hb=>by rw [this.pages b hb];omega,by rw [this.disk];omega⟩
theorem implStoreOk_r {w : World} {f d : Value} {s : Store} (h : StoreV w f d s) (hs : Small s) : Calls Tryz.prog 45 #[.agg #[f,d]] w (Ret w (.bool (storeOkB s))):=implStoreOk_c f d s w h hs.2.1 hs.2.2
def IntsRet (w : World) (xs : List Int) (e : Ending) (w' : World) : Prop:=∃ v,e = .returned v ∧ Ext w w' ∧ Ints (Old w') w' v xs
theorem IntsRet.to {w w' : World} {xs : List Int} {e : Ending} (h : IntsRet w xs e w') : ∃ v,e = .returned v ∧ RetC w (fun _ _ v w'=>Ints (Old w') w' v xs) v w':=h
variable {w : World} {v u f d g e : Value} {p q : Pair} {s t : Store} {l : Int}
theorem implStoreAll_r (h : StoreV w f d s) (hs : Small s) : Calls Tryz.prog 18 #[.agg #[f,d]] w (IntsRet w (allV s)):=
 (implStoreAll_c f d s w h hs.2.1 hs.2.2).mono fun _ _ ⟨v,h1,h2,h3⟩=>⟨v,h1,h2,h3.ints⟩
theorem implPairAll_r (h : PairR w v p) : Calls Tryz.prog 33 #[v] w (IntsRet w (pairAllV p)):=by
 obtain ⟨f,d,g,e,rfl,h1,h2,h3,h4⟩:=h
 exact (implPairAll_c f d g e p w h1 h2 h3 h4).mono fun _ _ ⟨v,h1,h2,h3⟩=>⟨v,h1,h2,h3.ints⟩
theorem implPairOk_r (h : PairR w v p) : Calls Tryz.prog 20 #[v] w (Ret w (.bool (pairOkB p))):=by
 obtain ⟨f,d,g,e,rfl,h1,h2,h3,h4⟩:=h
 exact implPairOk_c f d g e p w h1 h2 h3.2.1 h4.2.1 h3.2.2 h4.2.2
theorem implPairLose_r (which : Int) (h : PairR w v p) : Calls Tryz.prog 22 #[v,.int .i64 which] w (PairRet w (pairLoseV p which)):=by
 obtain ⟨f,d,g,e,rfl,h1,h2,h3,h4⟩:=h
 exact (implPairLose_c f d g e p which w h1 h2 h3 h4).mono fun _ _ h=>h.r
theorem specPairLose_r (which : Int) (h : PairR w v p) : Calls Tryz.prog 23 #[v,.int .i64 which] w (PairRet w (pairLoseV p which)):=by
 obtain ⟨f,d,g,e,rfl,h1,h2,h3,h4⟩:=h
 exact (specPairLose_c f d g e p which w h1 h2 h3 h4).mono fun _ _ h=>h.r
theorem lqInts_r {xs ys : List Int} (h : Ints (Old w) w v xs) (k : Ints (Old w) w u ys) (hn : xs.length ≤ 6) : Calls Tryz.prog 19 #[v,u] w (Ret w (.bool (decide (xs = ys)))):=by
 have:=lqInts_c v u xs ys w h k (.inl (by omega))
 rwa [listEq_dec] at this
theorem lqInts_t {xs : List Int} (h : Ints (Old w) w v xs) (k : Ints (Old w) w u xs) (hn : xs.length ≤ 6) : Calls Tryz.prog 19 #[v,u] w (Ret w (.bool true)):=by
 have:=lqInts_r h k hn
 rwa [decide_eq_true rfl] at this
theorem storeEq_refl' (s : Store) : storeEq s s = true:=by have:=pairEq_refl ⟨s,s,0⟩;simp [pairEq] at this;exact this
theorem lqStore_r (h : StoreV w f d s) (k : StoreV w g e t) (hs : Small s) : Calls Tryz.prog 17 #[.agg #[f,d],.agg #[g,e]] w (Ret w (.bool (storeEq s t))):=
 lqStore_c f g d e s t w h.1 k.1 h.2 k.2 (hs.fits _) (hs.fitsI _)
theorem lqStore_t (h : StoreV w f d s) (k : StoreV w g e s) (hs : Small s) : Calls Tryz.prog 17 #[.agg #[f,d],.agg #[g,e]] w (Ret w (.bool true)):=by
 have:=lqStore_r h k hs
 rwa [storeEq_refl'] at this
def StoreR (w : World) (v : Value) (s : Store) : Prop:=∃ f d,v = .agg #[f,d] ∧ StoreV w f d s ∧ Small s
theorem StoreR.ext {w w' : World} {v : Value} {s : Store} (h : StoreR w v s) (hx : Ext w w') : StoreR w' v s:=let ⟨f,d,h1,h2,h3⟩:=h;⟨f,d,h1,h2.ext hx,h3⟩
theorem PairR.a {w : World} {f d g e : Value} {l : Int} {p : Pair} (h : PairR w (.agg #[f,d,g,e,.int .i64 l]) p) : StoreR w (.agg #[f,d]) p.A:=⟨f,d,rfl,h.read.2.1,h.read.2.2.2.1⟩
theorem PairR.b {w : World} {f d g e : Value} {l : Int} {p : Pair} (h : PairR w (.agg #[f,d,g,e,.int .i64 l]) p) : StoreR w (.agg #[g,e]) p.B:=⟨g,e,rfl,h.read.2.2.1,h.read.2.2.2.2⟩
theorem StoreR.read2 {w : World} {f d : Value} {s : Store} (h : StoreR w (.agg #[f,d]) s) : StoreV w f d s ∧ Small s:=by
 obtain ⟨f',d',h1,h2⟩:=h
 injection h1 with h1
 simp at h1
 obtain ⟨rfl,rfl⟩:=h1
 exact h2
theorem lqStore_R {w : World} {v u : Value} {s : Store} (h : StoreR w v s) (k : StoreR w u s) : Calls Tryz.prog 17 #[v,u] w (Ret w (.bool true)):=by
 obtain ⟨f,d,rfl,h1,h2⟩:=h
 obtain ⟨g,e,rfl,k1,_⟩:=k
 exact lqStore_t h1 k1 h2
def StRet (w : World) (s : Store) (e : Ending) (w' : World) : Prop:=∃ v,e = .returned v ∧ Ext w w' ∧ StoreR w' v s
theorem StRet.to {w w' : World} {s : Store} {e : Ending} (h : StRet w s e w') : ∃ v,e = .returned v ∧ RetC w (fun _ _ v w'=>StoreR w' v s) v w':=h
theorem implStoreNew_R (w : World) : Calls Tryz.prog 24 #[] w (StRet w newStore):=
 (implStoreNew_c w).mono fun e w' ⟨f,d,L,h1,h2,h3,_,_⟩=>⟨_,h1,h2,f,d,rfl,⟨h3.flash,h3.disk⟩,small_ok storeOk_new⟩
end Go.Bu
namespace Go.Plan
open Go Go.RowKit
section tab
variable {P : Program} {l : List Oper} {Q : Exit → Act → World → Prop}
def Tab (l : List Oper) (tab B0 : Nat) (obj : Obj) (i : Nat) (w : World) : Prop:=((masks l).getD i 0).testBit tab = true → w.heap[B0]? = some obj
def RobT (P : Program) (l : List Oper) (ch : List Nat) (tab B0 : Nat) (obj : Obj) (fin : (World → Prop) → Act → Prop) : List Nat → (World → Prop) → (World → Prop) → Act → Prop
 | [],S,C,a=>fin (fun w=>S w ∧ C w) a
 | i :: L,S,C,a=>∃ o,l[i]? = some o ∧
     ((∃ v,YieldsIf P l.toArray (fun w=>S w ∧ Tab l tab B0 obj i w) o v a ∧ RobT P l ch tab B0 obj fin L S C (a.put o.dst v)) ∨
      (ch.contains i = true ∧ Region.wanted o (yielded l.toArray a.tmps) = true ∧ ∃ Ψ C' : Value → World → Prop,
       ((∀ v w w',Ψ v w → Ext w w' → Ψ v w') ∧ (∀ v w w',C' v w → Ext w w' → C' v w')) ∧
       (∀ w,S w → C w → B0 ≤ w.heap.size → RunTo P o a.eval w fun v w'=>w'.heap.size = w.heap.size ∧ (B0 < w.heap.size → w'.heap[B0]? = w.heap[B0]?) ∧ S w' ∧ Ψ v w' ∧ C' v w') ∧
       (∀ v,(∃ w',Ψ v w' ∧ C' v w') → RobT P l ch tab B0 obj fin L (fun w=>S w ∧ Ψ v w) (C' v) (a.put o.dst v))))
def FinT (P : Program) (l : List Oper) (Q : Exit → Act → World → Prop) (B0 : Nat) (obj : Obj) (S : World → Prop) (a : Act) : Prop:=
 ∀ w,S w → w.heap[B0]? = some obj → Q .normal a w
structure InvT (P : Program) (l : List Oper) (ch heads : List Nat) (tab B0 : Nat) (obj : Obj) (val : Value) (fin : (World → Prop) → Act → Prop)
  (listed : Array Bool) (a' : Act) (w' : World) (pre rest : List Nat) (S C : World → Prop) (a : Act) : Prop where
 split : heads = pre ++ rest
 tabp : tab ∈ pre
 rob : RobT P l ch tab B0 obj fin rest S C a
 siz : listed.size = l.length
 cl : Closed l (On listed)
 yld : ∀ i ∈ pre,i ≠ tab → ¬ On listed i → ∃ o v,l[i]? = some o ∧ YieldsIf P l.toArray (fun w=>S w ∧ Tab l tab B0 obj i w) o v a ∧ ∀ d,o.dst = some d → d < a.tmps.size → a.tmps[d]? = some v
 tabv : ∀ d,dstOf l tab = some d → d < a.tmps.size → a.tmps[d]? = some val
 restUn : ∀ i ∈ rest,¬ On listed i
 stab : ∀ w w',S w → Ext w w' → S w'
 hS : S w'
 stabC : ∀ w w',C w → Ext w w' → C w'
 hC : C w'
 sz0 : ¬ On listed tab → w'.heap.size = B0
 sz1 : On listed tab → B0 < w'.heap.size ∧ w'.heap[B0]? = some obj
 dfr : a'.defers = a.defers
 tsz : a'.tmps.size = a.tmps.size
 agree : ∀ t,(∀ j,j < l.length → dstOf l j = some t → On listed j) → a'.tmps[t]? = a.tmps[t]?
variable {ch heads : List Nat} {tab B0 : Nat} {obj : Obj} {val : Value} {fin : (World → Prop) → Act → Prop}
def AtChainT (P : Program) (l : List Oper) (ch : List Nat) (tab B0 : Nat) (obj : Obj) (fin : (World → Prop) → Act → Prop) : List Nat → (World → Prop) → (World → Prop) → Act → Prop
 | [],_,_,_=>True
 | i :: L,S,C,a=>∃ o,l[i]? = some o ∧ ch.contains i = true ∧ Region.wanted o (yielded l.toArray a.tmps) = true ∧ ∃ Ψ C' : Value → World → Prop,
     ((∀ v w w',Ψ v w → Ext w w' → Ψ v w') ∧ (∀ v w w',C' v w → Ext w w' → C' v w')) ∧
     (∀ w,S w → C w → B0 ≤ w.heap.size → RunTo P o a.eval w fun v w'=>w'.heap.size = w.heap.size ∧ (B0 < w.heap.size → w'.heap[B0]? = w.heap[B0]?) ∧ S w' ∧ Ψ v w' ∧ C' v w') ∧
     (∀ v,(∃ w',Ψ v w' ∧ C' v w') → RobT P l ch tab B0 obj fin L (fun w=>S w ∧ Ψ v w) (C' v) (a.put o.dst v))
theorem Static.looksT (st : Static l ch heads [] []) {pre rest : List Nat} {i : Nat} (hs : heads = pre ++ i :: rest) {o : Oper} (ho : l[i]? = some o) {t : Tmp} (ht : t ∈ o.looksAt l.toArray)
  {j : Nat} (hj : j < l.length) (hd : dstOf l j = some t) : j ∈ pre:=st.looks_pre hs ho ht hj hd List.not_mem_nil
theorem InvT.advance (st : Static l ch heads [] []) {listed : Array Bool} {a' : Act} {w' : World} :
  ∀ (rest pre : List Nat) (S C : World → Prop) (a : Act),InvT P l ch heads tab B0 obj val fin listed a' w' pre rest S C a →
   ∃ pre rest a,InvT P l ch heads tab B0 obj val fin listed a' w' pre rest S C a ∧ AtChainT P l ch tab B0 obj fin rest S C a:=by
 intro rest
 induction rest with
 | nil=>exact fun pre S C a h=>⟨pre,[],a,h,trivial⟩
 | cons i L ih =>
  intro pre S C a h
  obtain ⟨o,ho,hr⟩:=h.rob
  rcases hr with ⟨v,hy,hrob⟩ | hr
  ·have hil:=(List.getElem?_eq_some_iff.1 ho).1
   have hnm:=st.not_mem h.split
   have hdst : ∀ d,o.dst = some d → dstOf l i = some d:=fun d hd=>by unfold dstOf;rw [ho];exact hd
   have hself : ∀ t,o.dst = some t → t ∉ o.looksAt l.toArray:=fun t hd ht=>hnm.1 (st.looksT h.split ho ht hil (hdst t hd))
   refine ih (pre ++ [i]) S C (a.put o.dst v) { h with split:=by rw [h.split];simp,tabp:=List.mem_append_left _ h.tabp,rob:=hrob,yld:=?_,tabv:=?_,restUn:=fun k hk=>h.restUn k (by simp [hk]),dfr:=by rw [put_defers'];exact h.dfr,tsz:=by rw [put_size];exact h.tsz,agree:=?_ }
   ·intro k hk hkt hun
    rcases List.mem_append.1 hk with hk | hk
    ·obtain ⟨ok,vk,hok,hyk,hvk⟩:=h.yld k hk hkt hun
     have hkl:=(List.getElem?_eq_some_iff.1 hok).1
     have hki : k ≠ i:=fun e=>hnm.1 (e ▸ hk)
     refine ⟨ok,vk,hok,YieldsIf.put (fun cs b=>st.sel k ok cs b hok) hyk ?_,?_⟩
     ·intro t hd ht
      obtain ⟨L1,L2,hsp⟩:=List.append_of_mem hk
      have:=st.looksT (pre:=L1) (rest:=L2 ++ i :: L) (by rw [h.split,hsp];simp) hok ht hil (hdst t hd)
      exact hnm.1 (by rw [hsp];simp [this])
     ·intro d hd hlt
      rw [put_size] at hlt
      cases hod : o.dst with
      | none=>exact hvk d hd hlt
      | some e =>
       rw [put_get,if_neg]
       ·exact hvk d hd hlt
       ·rintro rfl
        exact st.okN hkl hil hki (hdst _ hod) (by unfold dstOf;rw [hok];exact hd)
    ·obtain rfl : k = i:=by simpa using hk
     refine ⟨o,v,ho,YieldsIf.put (fun cs b=>st.sel k o cs b ho) hy hself,?_⟩
     intro d hd hlt
     rw [put_size] at hlt
     rw [hd,put_get,if_pos rfl,if_pos hlt]
   ·intro d hd hlt
    rw [put_size] at hlt
    have htl : tab < l.length:=st.lt tab (.inl (by rw [h.split];simp [h.tabp]))
    cases hod : o.dst with
    | none=>exact h.tabv d hd hlt
    | some e =>
     rw [put_get,if_neg]
     ·exact h.tabv d hd hlt
     ·rintro rfl
      exact st.okN htl hil (fun e=>hnm.1 (e ▸ h.tabp)) (hdst _ hod) hd
   ·intro t ht
    rw [h.agree t ht]
    cases hod : o.dst with
    | none=>rfl
    | some e =>
     rw [put_get,if_neg]
     rintro rfl
     exact h.restUn i (by simp) (ht i hil (hdst _ hod))
  ·exact ⟨pre,i :: L,a,h,o,ho,hr⟩
theorem doneT (st : Static l ch heads [] []) (hS : okSlots l [] = true) (hT : okTail l heads [] = true) (hD : okDeps l = true)
  {fuel : Nat} {listed : Array Bool} {a' : Act} {w' : World} {pre : List Nat} {S C : World → Prop} {a : Act}
  (hu : unl l listed ≤ fuel) (h : InvT P l ch heads tab B0 obj val (FinT P l Q B0 obj) listed a' w' pre [] S C a) (ht : On listed tab) : wpAny P .any l.toArray Q fuel listed a' w':=by
 have hpre : heads = pre:=by rw [h.split,List.append_nil]
 obtain ⟨hb,htb⟩:=h.sz1 ht
 have hall : ∀ i,i < l.length → i ∈ heads:=fun i hi=>(st.all i hi).elim id fun h=>h.elim (fun h=>absurd h List.not_mem_nil) (fun h=>absurd h List.not_mem_nil)
 have hp : Pend P l [] w' listed a' a:=by
  refine ⟨h.siz,h.cl,?_,fun i hi=>absurd hi List.not_mem_nil,h.dfr,h.tsz,fun t ht=>h.agree t fun j hj hd=>(ht j hj hd).elim id fun h=>absurd h List.not_mem_nil⟩
  intro i o ho _ hun
  have hil:=(List.getElem?_eq_some_iff.1 ho).1
  obtain ⟨o',v,ho',hy,hv⟩:=h.yld i (hpre ▸ hall i hil) (fun e=>hun (e ▸ ht)) hun
  rw [ho] at ho';obtain rfl:=Option.some.inj ho'
  exact ⟨v,hy.imp (fun ⟨h1,h2⟩=>⟨h1,fun w hw=>h2 w (hw ▸ ⟨h.hS,fun _=>htb⟩)⟩) id,hv⟩
 exact pend_run (pre:=heads) hS hD st.sel hT (fun i hi=>.inl (hall i hi)) (fun i hi=>st.lt i (.inl hi)) List.nodup_nil fuel listed a' a w' hu hp (by
  show Q .normal a w'
  exact h.rob w' ⟨h.hS,h.hC⟩ htb)
theorem robT_sound (st : Static l ch heads [] []) (hS : okSlots l [] = true) (hT : okTail l heads [] = true) (hD : okDeps l = true)
  (htab : ∃ o,l[tab]? = some o ∧ o.guard = none ∧ ∀ (a : Act) (w : World),w.heap.size = B0 → (execOp a.eval o).run P w = .ok (.value val) (w.alloc obj)) (hc : ch.contains tab = false) :
  ∀ (fuel : Nat) (listed : Array Bool) (a' : Act) (w' : World) (pre rest : List Nat) (S C : World → Prop) (a : Act),
   unl l listed ≤ fuel → InvT P l ch heads tab B0 obj val (FinT P l Q B0 obj) listed a' w' pre rest S C a → wpAny P .any l.toArray Q fuel listed a' w':=by
 intro fuel
 induction fuel with
 | zero =>
  intro listed a' w' pre rest S C a hu h
  have hall : ∀ i,i < l.length → On listed i:=fun i hi=>unl_zero (by omega) hi
  cases rest with
  | nil=>exact doneT st hS hT hD hu h (hall _ (st.lt _ (.inl (by rw [h.split];simp [h.tabp]))))
  | cons c L=>exact absurd (hall c (st.lt c (.inl (by rw [h.split];simp)))) (h.restUn c (by simp))
 | succ fuel ih =>
  intro listed a' w' pre0 rest0 S C a0 hu h0
  obtain ⟨pre,rest,a,h,hch⟩:=InvT.advance st rest0 pre0 S C a0 h0
  clear h0 a0 pre0 rest0
  have hall : ∀ i,i < l.length → i ∈ heads:=fun i hi=>(st.all i hi).elim id fun h=>h.elim (fun h=>absurd h List.not_mem_nil) (fun h=>absurd h List.not_mem_nil)
  by_cases hdone : rest = [] ∧ On listed tab
  ·obtain ⟨hre,hlo⟩:=hdone
   subst hre
   exact doneT st hS hT hD hu h hlo
  have htl : tab < l.length:=st.lt tab (.inl (by rw [h.split];simp [h.tabp]))
  have hready : Region.ready .any l.toArray listed ≠ []:=by
   have : ∃ i,i < l.length ∧ ¬ On listed i:=by
    cases hrs : rest with
    | nil=>exact ⟨tab,htl,fun hon=>hdone ⟨hrs,hon⟩⟩
    | cons c L=>exact ⟨c,st.lt c (.inl (by rw [h.split,hrs];simp)),h.restUn c (by rw [hrs];simp)⟩
   obtain ⟨i,hi,hn⟩:=this
   exact some_ready hD h.siz i hi hn
  refine ⟨fun h0=>absurd h0 hready,fun i hi=>?_⟩
  obtain ⟨hun,o,ho,hdeps⟩:=(ready_iff h.siz).1 hi
  have hil:=(List.getElem?_eq_some_iff.1 ho).1
  have hdst : ∀ d,o.dst = some d → dstOf l i = some d:=fun d hd=>by unfold dstOf;rw [ho];exact hd
  have hsz : i < listed.size:=by rw [h.siz];exact hil
  have hu' : unl l (listed.setIfInBounds i true) ≤ fuel:=by have:=unl_set (l:=l) h.siz hil hun;omega
  have hcl':=closed_set h.siz h.cl ho hdeps
  have hih:=hall i hil
  have hlook : ∀ t ∈ o.looksAt l.toArray,a'.tmps[t]? = a.tmps[t]?:=fun t ht=>h.agree t fun j hj hd=>masks_spec h.cl ho hdeps ((st.okK hil hj hd (by unfold looks;rw [ho];exact ht)).resolve_right List.not_mem_nil)
  obtain ⟨hex,hwt⟩:=same_on (fun cs b=>st.sel i o cs b ho) hlook
  have hagree : ∀ (v : Value),(∀ d,o.dst = some d → d < a.tmps.size → a.tmps[d]? = some v) → ∀ t,(∀ j,j < l.length → dstOf l j = some t → On (listed.setIfInBounds i true) j) → (a'.put o.dst v).tmps[t]? = a.tmps[t]?:=by
   intro v hv t ht
   cases hod : o.dst with
   | none =>
    refine h.agree t fun j hj hd=>?_
    rcases (on_set hsz).1 (ht j hj hd) with rfl | h1
    ·have : dstOf l j = none:=by unfold dstOf;rw [ho];exact hod
     rw [this] at hd;cases hd
    ·exact h1
   | some d =>
    rw [put_get]
    by_cases htd : t = d
    ·subst htd
     rw [if_pos rfl]
     by_cases hlt : t < a'.tmps.size
     ·rw [if_pos hlt,hv t hod (by rw [← h.tsz];exact hlt)]
     ·have hge : a.tmps.size ≤ t:=by rw [← h.tsz];exact Nat.not_lt.1 hlt
      rw [if_neg hlt,Array.getElem?_eq_none hge]
    ·rw [if_neg htd]
     refine h.agree t fun j hj hd=>?_
     rcases (on_set hsz).1 (ht j hj hd) with rfl | h1
     ·rw [hdst d hod] at hd;exact absurd (Option.some.inj hd).symm htd
     ·exact h1
  by_cases hit : i = tab
  ·-- the table
   subst hit
   obtain ⟨o',ho',hg,hop⟩:=htab
   rw [ho] at ho';obtain rfl:=Option.some.inj ho'
   unfold wpOp
   simp only [List.getElem?_toArray,ho]
   rw [if_pos (by simp [Region.wanted,hg])]
   refine .inl ?_
   unfold Oper.wp
   have hs0:=h.sz0 hun
   rw [hop a' w' hs0]
   simp only [Oper.upon]
   have hext : Ext w' (w'.alloc obj):=(Below.refl _ _).alloc (Nat.le_refl _) _
   refine ih _ _ _ pre rest S C a hu' { h with siz:=by simpa using h.siz,cl:=hcl',yld:=?_,restUn:=?_,hS:=h.stab _ _ h.hS hext,hC:=h.stabC _ _ h.hC hext,sz0:=?_,sz1:=?_,dfr:=by rw [put_defers'];exact h.dfr,tsz:=by rw [put_size];exact h.tsz,agree:=hagree val fun d hd hlt=>h.tabv d (hdst d hd) hlt }
   ·exact fun k hk hkt hn=>h.yld k hk hkt (fun hon=>hn ((on_set hsz).2 (.inr hon)))
   ·intro k hk hon
    rcases (on_set hsz).1 hon with rfl | hon
    ·have hnd : heads.Nodup:=(List.nodup_append.1 (List.nodup_append.1 st.nd).1).1
     rw [h.split] at hnd
     exact (List.nodup_append.1 hnd).2.2 k h.tabp k hk rfl
    ·exact h.restUn k hk hon
   ·exact fun hn=>absurd ((on_set hsz).2 (.inl rfl)) hn
   ·intro _
    refine ⟨by simp;omega,?_⟩
    rw [← hs0]
    show (w'.heap.push obj)[w'.heap.size]? = _
    simp
  rw [h.split] at hih
  have htn : ∀ {x},On (listed.setIfInBounds i true) tab → x = tab → On listed tab:=fun hon _=>((on_set hsz).1 hon).resolve_left (Ne.symm hit)
  rcases List.mem_append.1 hih with hp | hr
  ·-- one that yields
   obtain ⟨o',v,ho',hy,hv⟩:=h.yld i hp hit hun
   rw [ho] at ho';obtain rfl:=Option.some.inj ho'
   have hy':=hy.of_same (a':=a') hex hwt
   refine YieldsIf.wpOp (P:=P) (ops:=l.toArray) (S:=fun w=>S w ∧ Tab l tab B0 obj i w) (by simpa using ho) hy' ⟨h.hS,fun hm=>(h.sz1 (masks_spec h.cl ho hdeps hm)).2⟩ ?_
   refine ih _ _ w' pre rest S C a hu' { h with siz:=by simpa using h.siz,cl:=hcl',yld:=?_,restUn:=?_,sz0:=?_,sz1:=?_,dfr:=by rw [put_defers'];exact h.dfr,tsz:=by rw [put_size];exact h.tsz,agree:=hagree v hv }
   ·exact fun k hk hkt hn=>h.yld k hk hkt (fun hon=>hn ((on_set hsz).2 (.inr hon)))
   ·intro k hk hon
    rcases (on_set hsz).1 hon with rfl | hon
    ·have hnd : heads.Nodup:=(List.nodup_append.1 (List.nodup_append.1 st.nd).1).1
     rw [h.split] at hnd
     exact (List.nodup_append.1 hnd).2.2 k hp k hk rfl
    ·exact h.restUn k hk hon
   ·exact fun hn=>h.sz0 fun hon=>hn ((on_set hsz).2 (.inr hon))
   ·exact fun hon=>h.sz1 (htn (x:=tab) hon rfl)
  ·-- the next one that may turn the world
   cases rest with
   | nil=>cases hr
   | cons c L =>
    obtain ⟨oc,hoc,hcc,hcw,Ψ,C',⟨hst,hstC⟩,hrun,hnext⟩:=hch
    by_cases hic : i = c
    ·subst hic
     rw [ho] at hoc;obtain rfl:=Option.some.inj hoc
     have hnm:=st.not_mem h.split
     have hB0 : B0 ≤ w'.heap.size:=by
      by_cases ht : On listed tab
      ·exact Nat.le_of_lt (h.sz1 ht).1
      ·rw [h.sz0 ht];exact Nat.le_refl _
     have hrt:=(hrun w' h.hS h.hC hB0).congr hex.symm
     unfold wpOp
     simp only [List.getElem?_toArray,ho]
     rw [if_pos (hwt.trans hcw)]
     refine .inl (hrt.wp fun v w'' hv=>?_)
     obtain ⟨hsp,hbk,hS',hΨ,hC'⟩:=hv
     have hself : ∀ t,o.dst = some t → t ∉ o.looksAt l.toArray:=fun t hd ht=>hnm.1 (st.looksT h.split ho ht hil (hdst t hd))
     refine ih _ _ w'' (pre ++ [i]) L _ _ (a.put o.dst v) hu' { split:=by rw [h.split];simp,tabp:=List.mem_append_left _ h.tabp,rob:=hnext v ⟨w'',hΨ,hC'⟩,stabC:=fun w1 w2 hc he=>hstC _ w1 w2 hc he,hC:=hC',siz:=by simpa using h.siz,cl:=hcl',yld:=?_,tabv:=?_,restUn:=?_,stab:=?_,hS:=⟨hS',hΨ⟩,sz0:=?_,sz1:=?_,dfr:=by rw [put_defers',put_defers'];exact h.dfr,tsz:=by rw [put_size,put_size];exact h.tsz,agree:=?_ }
     ·intro k hk hkt hn
      rcases List.mem_append.1 hk with hk | hk
      ·obtain ⟨ok,vk,hok,hyk,hvk⟩:=h.yld k hk hkt (fun hon=>hn ((on_set hsz).2 (.inr hon)))
       have hkl:=(List.getElem?_eq_some_iff.1 hok).1
       have hki : k ≠ i:=fun e=>hnm.1 (e ▸ hk)
       refine ⟨ok,vk,hok,?_,?_⟩
       ·have hyk' : YieldsIf P l.toArray (fun w=>(S w ∧ Ψ v w) ∧ Tab l tab B0 obj k w) ok vk a:=
         hyk.imp (fun ⟨h1,h2⟩=>⟨h1,fun w hw=>h2 w ⟨hw.1.1,hw.2⟩⟩) id
        refine YieldsIf.put (fun cs b=>st.sel k ok cs b hok) hyk' ?_
        intro t hd ht
        obtain ⟨L1,L2,hsp'⟩:=List.append_of_mem hk
        have:=st.looksT (pre:=L1) (rest:=L2 ++ i :: L) (by rw [h.split,hsp'];simp) hok ht hil (hdst t hd)
        exact hnm.1 (by rw [hsp'];simp [this])
       ·intro d hd hlt
        rw [put_size] at hlt
        cases hod : o.dst with
        | none=>exact hvk d hd hlt
        | some e =>
         rw [put_get,if_neg]
         ·exact hvk d hd hlt
         ·rintro rfl
          exact st.okN hkl hil hki (hdst _ hod) (by unfold dstOf;rw [hok];exact hd)
      ·obtain rfl : k = i:=by simpa using hk
       exact absurd ((on_set hsz).2 (.inl rfl)) hn
     ·intro d hd hlt
      rw [put_size] at hlt
      cases hod : o.dst with
      | none=>exact h.tabv d hd hlt
      | some e =>
       rw [put_get,if_neg]
       ·exact h.tabv d hd hlt
       ·rintro rfl
        exact st.okN htl hil (Ne.symm hit) (hdst _ hod) hd
     ·intro k hk hon
      rcases (on_set hsz).1 hon with rfl | hon
      ·exact hnm.2 hk
      ·exact h.restUn k (by simp [hk]) hon
     ·exact fun w1 w2 hs he=>⟨h.stab w1 w2 hs.1 he,hst _ w1 w2 hs.2 he⟩
     ·exact fun hn=>by rw [hsp];exact h.sz0 fun hon=>hn ((on_set hsz).2 (.inr hon))
     ·intro hon
      obtain ⟨h1,h2⟩:=h.sz1 (htn (x:=tab) hon rfl)
      exact ⟨by rw [hsp];exact h1,by rw [hbk h1];exact h2⟩
     ·intro t ht
      cases hod : o.dst with
      | none =>
       refine h.agree t fun j hj hd=>?_
       rcases (on_set hsz).1 (ht j hj hd) with rfl | h1
       ·have : dstOf l j = none:=by unfold dstOf;rw [ho];exact hod
        rw [this] at hd;cases hd
       ·exact h1
      | some d =>
       rw [put_get,put_get,h.tsz]
       by_cases htd : t = d
       ·rw [if_pos htd,if_pos htd]
       ·rw [if_neg htd,if_neg htd]
        refine h.agree t fun j hj hd=>?_
        rcases (on_set hsz).1 (ht j hj hd) with rfl | h1
        ·rw [hdst d hod] at hd;exact absurd (Option.some.inj hd).symm htd
        ·exact h1
    ·-- a later head operation waits for it
     have hr' : i ∈ L:=by
      rcases List.mem_cons.1 hr with e | e
      ·exact absurd e hic
      ·exact e
     obtain ⟨L1,L2,rfl⟩:=List.append_of_mem hr'
     obtain ⟨o',ho',_,hm⟩:=okHeads_split st.okH (pre ++ c :: L1) i L2 (by rw [h.split];simp)
     rw [ho] at ho';obtain rfl:=Option.some.inj ho'
     exact absurd (masks_spec h.cl ho hdeps (hm c (by simp) hcc)) (h.restUn c (by simp))
theorem wp_region_tab (tab : Nat) (obj : Obj) (val : Nat → Value) (ch heads : List Nat) {id : Nat} {a : Act} {w : World} (hm : P.follows .mixedOrders = true)
  (hok : okPlanM l ch (tab :: heads) [] [] [] = true) (hct : ch.contains tab = false)
  (htab : ∃ o,l[tab]? = some o ∧ o.guard = none ∧ ∀ (a : Act) (w : World),(execOp a.eval o).run P w = .ok (.value (val w.heap.size)) (w.alloc obj))
  (S : World → Prop) (hS : S w.drew) (hst : ∀ w w',S w → Ext w w' → S w') (C : World → Prop) (hC : C w.drew) (hstC : ∀ w w',C w → Ext w w' → C w')
  (h : RobT P l ch tab w.heap.size obj (FinT P l Q w.heap.size obj) heads S C (a.put (dstOf l tab) (val w.heap.size))) : (Code.region id l.toArray true).wp P Q a w:=by
 obtain ⟨st,hSl,hT,hTo,hD⟩:=Static.of (lates:=[]) hok
 refine wp_region_any hm ?_
 have hun : ∀ i,¬ On (Array.replicate l.toArray.size false) i:=fun i=>by
  unfold On;simp [Array.getD_eq_getD_getElem?,Array.getElem?_replicate];split <;> simp
 refine robT_sound (val:=val w.heap.size) st hSl (by simpa using hT) hD (by obtain ⟨o,h1,h2,h3⟩:=htab;exact ⟨o,h1,h2,fun a w' hw=>by rw [h3 a w',hw]⟩) hct _ _ a w.drew [tab] heads S C _ ?_ ⟨rfl,by simp,h,by simp,fun i o _ hi=>absurd hi (hun i),fun i hi hne=>absurd (List.mem_singleton.1 hi) hne,?_,fun i _=>hun i,hst,hS,hstC,hC,fun _=>rfl,fun hon=>absurd hon (hun _),by rw [put_defers'],by rw [put_size],?_⟩
 ·unfold unl
  exact Nat.le_trans (List.length_filter_le _ _) (by simp)
 ·intro d hd hlt
  rw [put_size] at hlt
  rw [hd,put_get,if_pos rfl,if_pos hlt]
 ·intro t ht
  cases hd : dstOf l tab with
  | none=>rfl
  | some d =>
   rw [put_get,if_neg]
   rintro rfl
   exact hun _ (ht tab (st.lt tab (.inl (by simp))) hd)
variable {L : List Nat} {S C : World → Prop} {a : Act}
theorem RobT.y {i : Nat} {o : Oper} {v : Value} (ho : l[i]? = some o) (hg : o.guard = none)
  (hy : ∀ w1,S w1 → Tab l tab B0 obj i w1 → (execOp a.eval o).run P w1 = .ok (.value v) w1) (h : RobT P l ch tab B0 obj fin L S C (a.put o.dst v)) : RobT P l ch tab B0 obj fin (i :: L) S C a:=
 ⟨o,ho,.inl ⟨v,.inl ⟨by simp [Region.wanted,hg],fun w hw=>hy w hw.1 hw.2⟩,h⟩⟩
theorem RobT.w {i : Nat} {o : Oper} (Φ : Value → Prop) (C' : World → Prop) (ho : l[i]? = some o) (hc : ch.contains i = true) (hg : Region.wanted o (yielded l.toArray a.tmps) = true)
  (hstC : ∀ w w',C' w → Ext w w' → C' w')
  (hrun : ∀ w,S w → C w → B0 ≤ w.heap.size → RunTo P o a.eval w fun v w'=>w'.heap.size = w.heap.size ∧ (B0 < w.heap.size → w'.heap[B0]? = w.heap[B0]?) ∧ S w' ∧ Φ v ∧ C' w')
  (h : ∀ v,Φ v → RobT P l ch tab B0 obj fin L S C' (a.put o.dst v)) : RobT P l ch tab B0 obj fin (i :: L) S C a:=by
 refine ⟨o,ho,.inr ⟨hc,hg,fun v _=>Φ v,fun _=>C',⟨fun _ _ _ h _=>h,fun _=>hstC⟩,hrun,fun v ⟨_,hv,_⟩=>?_⟩⟩
 rw [show (fun w=>S w ∧ Φ v) = S from funext fun w=>by simp [hv]]
 exact h v hv
end tab
section pure
variable {P : Program} {l : List Oper} {Q : Exit → Act → World → Prop} {B0 : Nat}
theorem Rob.mid {w1 : World} {S C : World → Prop} {iv : List (Nat × Nat)} {H : Nat} (hS : S w1) (hC : C w1) (hH : H ≤ w1.heap.size) : ∀ (L : List Nat) (a : Act),Rob P l [] B0 (Fin P l Q B0 [] []) L S C iv H a → Mid P l Q [] L a w1:=by
 intro L
 induction L with
 | nil=>exact fun a h=>h w1 ⟨hS,hC⟩ hH (fun _=>0) (fun f hf=>absurd hf List.not_mem_nil) (fun f hf=>absurd hf List.not_mem_nil)
 | cons i L ih =>
  rintro a ⟨o,ho,⟨v,hy,h⟩ | ⟨hc,_⟩⟩
  ·exact ⟨o,v,ho,hy.imp (fun ⟨h1,h2⟩=>⟨h1,fun w hw=>h2 w (hw ▸ ⟨hS,hH⟩)⟩) id,ih _ h⟩
  ·simp at hc
theorem wp_region_pure (heads : List Nat) {id : Nat} {a : Act} {w : World} (hm : P.follows .mixedOrders = true) (hok : okPlanM l [] [] [] heads [] = true)
  (h : Rob P l [] w.heap.size (Fin P l Q w.heap.size [] []) heads (fun w1=>Ext w w1 ∧ w1.heap.size = w.heap.size) (fun _=>True) [] w.heap.size a) : (Code.region id l.toArray true).wp P Q a w:=by
 obtain ⟨st,hSl,hT,hTo,hD⟩:=Static.of (lates:=[]) hok
 refine wp_region_any hm ?_
 have hun : ∀ i,¬ On (Array.replicate l.toArray.size false) i:=fun i=>by
  unfold On;simp [Array.getD_eq_getD_getElem?,Array.getElem?_replicate];split <;> simp
 have hmid : Mid P l Q [] heads a w.drew:=Rob.mid ⟨(Below.refl _ _).drew,rfl⟩ trivial (Nat.le_refl _) heads a h
 have hall : ∀ i,i < l.length → i ∈ heads:=fun i hi=>by
  rcases st.all i hi with h | h | h
  ·exact absurd h List.not_mem_nil
  ·exact absurd h List.not_mem_nil
  ·simpa using h
 have hlt : ∀ i,i ∈ heads → i < l.length:=fun i hi=>st.lt i (.inr (.inr (by simpa using hi)))
 have hnd : heads.Nodup:=by have:=st.nd;simpa using this
 obtain ⟨A',hp,hw⟩:=mid_adv (tl:=[]) hSl st.sel (listed:=Array.replicate l.toArray.size false) (a':=a) heads [] a hTo (fun i o _ hi=>absurd hi List.not_mem_nil) (fun i hi=>.inr (by simpa using hall i hi)) (fun i hi=>absurd hi List.not_mem_nil) (by simpa using hnd) hmid
  ⟨by simp,fun i o _ hi=>absurd hi (hun i),fun i o ho hi _=>absurd (by simpa using hall i (List.getElem?_eq_some_iff.1 ho).1) hi,fun i _=>hun i,rfl,rfl,fun t _=>rfl⟩
 refine pend_run (pre:=heads) hSl hD st.sel (by simpa using hT) (fun i hi=>.inl (hall i hi)) hlt List.nodup_nil _ _ a A' _ ?_ hp hw
 unfold unl
 exact Nat.le_trans (List.length_filter_le _ _) (by simp)
end pure
end Go.Plan
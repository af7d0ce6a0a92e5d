/- Walks of the reference's query: can of field and is; Can. -/
import Derived.Test.YtbemeapjeipjlaaGreatDoorQN43
set_option linter.unusedVariables false
set_option linter.unusedSimpArgs false
namespace Go.Proofs.YtbemeapjeipjlaaGreatDoor
open Go Go.RowKit
set_option maxRecDepth 100000
set_option maxHeartbeats 8000000
theorem rcan_is (a:Int) (l:List Ex) (nm:ByteArray) (t:Tm) (ih:∀x∈l,RCanC x):RCanC (.mk oIs a l nm t):=by
 rintro x k w ⟨Al,cl,y,rfl,hop,ha,hnm,ht,hll,hl⟩ hk0 hk
 have HP:=Hd (rparts_of oIs a (.slice Al l.length cl) nm y ht.eleven rfl (w.alloc (.cells (.string oIs :: .int .i64 a :: .slice Al l.length cl :: .string nm :: y).toArray 32)))
 have HQ:Hid (partsR oIs nm=9∨(l.length:Int)=partsR oIs nm→ShapeOK oIs l.length):=Hd parts_shape
 have hpb:=partsR_bound oIs nm
 generalize partsR oIs nm=n at *
 have hwk:IntKind.i64.wrap (k-1)=k-1:=by rw[IntKind.wrap_i64];omega
 obtain ⟨n0,n1,n2,n3,n4,n5,n6,n7,n8,n9,n10,rfl,-⟩:=ht.eleven
 unfold eV at HP
 unfold termOf
 have HB:Hid (Below w.heap.size w (w.alloc (.cells #[.string oIs,.int .i64 a,.slice Al l.length cl,.string nm,n0,n1,n2,n3,n4,n5,n6,n7,n8,n9,n10] 32))):=Hd bnew
 have hsz:(w.alloc (.cells #[.string oIs,.int .i64 a,.slice Al l.length cl,.string nm,n0,n1,n2,n3,n4,n5,n6,n7,n8,n9,n10] 32)).heap.size=w.heap.size+1:=by simp
 by_cases hk1:k<1
 ·go_enter Tryz.func35,Tryz.ntmps35
  go_wp2_with fail
  refine HP.out.mono ?_
  rintro e w1 ⟨rfl,hb1⟩
  have hz1:Below (w.heap.size+1) (w.alloc (.cells #[.string oIs,.int .i64 a,.slice Al l.length cl,.string nm,n0,n1,n2,n3,n4,n5,n6,n7,n8,n9,n10] 32)) w1:=by rw[hsz]at hb1;exact hb1
  have hBw:=HB.out.trans (hb1.mono HB.out.size)
  have d3:w1.cell? ⟨w.heap.size,3,none⟩=some (.string nm):=(hz1.cell (p:=⟨w.heap.size,3,none⟩) (show w.heap.size<w.heap.size+1 by omega)).trans (by simp[go_sem])
  have d0:w1.cell? ⟨w.heap.size,0,none⟩=some (.string oIs):=(hz1.cell (p:=⟨w.heap.size,0,none⟩) (show w.heap.size<w.heap.size+1 by omega)).trans (by simp[go_sem])
  have d2:w1.cell? ⟨w.heap.size,2,none⟩=some (.slice Al l.length cl):=(hz1.cell (p:=⟨w.heap.size,2,none⟩) (show w.heap.size<w.heap.size+1 by omega)).trans (by simp[go_sem])
  have hsl:w.heap.size<w1.heap.size:=by have:=hz1.size;rw[hsz]at this;omega
  clear hb1
  go_wp2
  go_ret
  exact ⟨-1,rfl,by omega,by omega,Hd (fun h=>absurd h (by omega)),hBw⟩
 by_cases hn0:n<0
 ·go_enter Tryz.func35,Tryz.ntmps35
  go_wp2_with fail
  refine HP.out.mono ?_
  rintro e w1 ⟨rfl,hb1⟩
  have hz1:Below (w.heap.size+1) (w.alloc (.cells #[.string oIs,.int .i64 a,.slice Al l.length cl,.string nm,n0,n1,n2,n3,n4,n5,n6,n7,n8,n9,n10] 32)) w1:=by rw[hsz]at hb1;exact hb1
  have hBw:=HB.out.trans (hb1.mono HB.out.size)
  have d3:w1.cell? ⟨w.heap.size,3,none⟩=some (.string nm):=(hz1.cell (p:=⟨w.heap.size,3,none⟩) (show w.heap.size<w.heap.size+1 by omega)).trans (by simp[go_sem])
  have d0:w1.cell? ⟨w.heap.size,0,none⟩=some (.string oIs):=(hz1.cell (p:=⟨w.heap.size,0,none⟩) (show w.heap.size<w.heap.size+1 by omega)).trans (by simp[go_sem])
  have d2:w1.cell? ⟨w.heap.size,2,none⟩=some (.slice Al l.length cl):=(hz1.cell (p:=⟨w.heap.size,2,none⟩) (show w.heap.size<w.heap.size+1 by omega)).trans (by simp[go_sem])
  have hsl:w.heap.size<w1.heap.size:=by have:=hz1.size;rw[hsz]at this;omega
  clear hb1
  go_wp2
  go_ret
  exact ⟨-1,rfl,by omega,by omega,Hd (fun h=>absurd h (by omega)),hBw⟩
 by_cases h9:n=9
 ·have h9b:(n != 9)=false:=by simp[h9]
  have HS:=Hd (HQ.out (.inl h9))
  go_enter Tryz.func35,Tryz.ntmps35
  go_wp2_with fail
  refine HP.out.mono ?_
  rintro e w1 ⟨rfl,hb1⟩
  have hz1:Below (w.heap.size+1) (w.alloc (.cells #[.string oIs,.int .i64 a,.slice Al l.length cl,.string nm,n0,n1,n2,n3,n4,n5,n6,n7,n8,n9,n10] 32)) w1:=by rw[hsz]at hb1;exact hb1
  have hBw:=HB.out.trans (hb1.mono HB.out.size)
  have d3:w1.cell? ⟨w.heap.size,3,none⟩=some (.string nm):=(hz1.cell (p:=⟨w.heap.size,3,none⟩) (show w.heap.size<w.heap.size+1 by omega)).trans (by simp[go_sem])
  have d0:w1.cell? ⟨w.heap.size,0,none⟩=some (.string oIs):=(hz1.cell (p:=⟨w.heap.size,0,none⟩) (show w.heap.size<w.heap.size+1 by omega)).trans (by simp[go_sem])
  have d2:w1.cell? ⟨w.heap.size,2,none⟩=some (.slice Al l.length cl):=(hz1.cell (p:=⟨w.heap.size,2,none⟩) (show w.heap.size<w.heap.size+1 by omega)).trans (by simp[go_sem])
  have hsl:w.heap.size<w1.heap.size:=by have:=hz1.size;rw[hsz]at this;omega
  clear hb1
  have HI:=Hd (rin_any rkinds (some ⟨w1.drew.heap.size,0,none⟩) 10 nm (rkindsW w1.drew) (by decide) (.inr ⟨_,_,rfl,rkinds_at w1.drew⟩))
  rw[show rkinds.length=10 from rfl]at HI
  generalize idxW rkinds nm 0=q at HI
  have hz1d:=hz1.drew
  go_wp2_with fail
  refine wp_region_mix (fun W=>Below (w.heap.size+1) (w.alloc (.cells #[.string oIs,.int .i64 a,.slice Al l.length cl,.string nm,n0,n1,n2,n3,n4,n5,n6,n7,n8,n9,n10] 32)) W) [(true,1),(true,2),(false,0),(false,3),(false,4),(false,5)] (by kernel_rfl) (by kernel_rfl) (fun _ _ _ _ _ h=>h) ?_ ?_
  ·((exact hz1d))
  simp only[pickM,List.getElem?_cons_succ,List.getElem?_cons_zero]
  repeat (refine MixS.head (fun K hK=>?_);go_simp;first|(refine hK _ ?_;clear hK K)|(apply Exists.intro;refine ⟨fun W hW=>?_,hK _ ?_⟩;(first|(intros;rfl)|((have en:=(hW.cell (p:=⟨w.heap.size,3,none⟩) (show w.heap.size<w.heap.size+1 by omega)).trans (show (w.alloc (.cells #[.string oIs,.int .i64 a,.slice Al l.length cl,.string nm,n0,n1,n2,n3,n4,n5,n6,n7,n8,n9,n10] 32)).cell? ⟨w.heap.size,3,none⟩=some (.string nm) by simp[go_sem]);go_simp;rfl)));clear hK K))
  refine MixS.step (fun K hK=>?_)
  go_simp
  go_at_call 56
  refine (rkinds_any _).mono ?_
  rintro e w2 ⟨rfl,rfl⟩
  have hz:Below (w.heap.size+1) (w.alloc (.cells #[.string oIs,.int .i64 a,.slice Al l.length cl,.string nm,n0,n1,n2,n3,n4,n5,n6,n7,n8,n9,n10] 32)) (rkindsW w1.drew):=hz1d.trans ((rkinds_below _).mono (by have:=hz1d.size;rw[hsz]at this;exact this))
  refine hK _ _ hz ?_
  clear hK K
  refine MixS.step (fun K hK=>?_)
  go_simp
  go_at_call 54
  refine HI.out.mono ?_
  rintro e w2 ⟨rfl,rfl⟩
  refine hK _ _ hz ?_
  clear hK K
  generalize rkindsW w1.drew=wk at *
  cases hq:decide (0≤q)
  ·have hq0:q<0:=by simpa using hq
   refine MixS.step (fun K hK=>?_)
   go_simp
   refine hK _ _ hz ?_
   clear hK K
   refine MixS.step (fun K hK=>?_)
   go_simp
   refine hK _ _ hz ?_
   clear hK K
   refine MixS.nil ?_
   go_wp2
   go_ret
   exact ⟨-1,rfl,by omega,by omega,Hd (fun h=>absurd h (by omega)),HB.out.trans (hz.mono (by omega))⟩
  ·have hq0:0≤q:=by simpa using hq
   refine MixS.step (fun K hK=>?_)
   go_simp
   refine hK _ _ hz ?_
   clear hK K
   refine MixS.step (fun K hK=>?_)
   go_simp
   refine hK _ _ hz ?_
   clear hK K
   refine MixS.nil ?_
   have hzs:=hz.size
   rw[hsz]at hzs
   go_wp2_with fail
   go_loopw [1,7] (fun u v wr=>∃(j:Nat) (r:Int),u=.int .i64 r∧v=.int .i64 j∧j≤l.length∧-1≤r∧r≤k-1∧Below (w.heap.size+1) (w.alloc (.cells #[.string oIs,.int .i64 a,.slice Al l.length cl,.string nm,n0,n1,n2,n3,n4,n5,n6,n7,n8,n9,n10] 32)) wr∧Hid (0≤r→(∀(i:Nat) x,i<j→l[i]?=some x→shapeE x)∧(sizeEL (l.take j):Int)≤k-1-r)) (fun _ v _=>l.length-(intOf v).toNat)
   case atStart=>exact ⟨0,k-1,rfl,rfl,by omega,by omega,by omega,hz,Hd (fun _=>⟨fun i x h=>absurd h (by omega),by simp[sizeEL]⟩)⟩
   case round =>
    obtain ⟨j,r,rfl,rfl,hj,hr1,hr2,hb,HX⟩:=hrel
    have hbz:=hb.size
    rw[hsz]at hbz
    have e2:wr.cell? ⟨w.heap.size,2,none⟩=some (.slice Al l.length cl):=(hb.cell (p:=⟨w.heap.size,2,none⟩) (show w.heap.size<w.heap.size+1 by omega)).trans (by simp[go_sem])
    have hwl:w.heap.size<wr.heap.size:=by omega
    have hB0:=HB.out.trans (hb.mono (by omega))
    by_cases hlt:j<l.length
    ·by_cases hr0:0≤r
     ·obtain ⟨bk,off,rfl,hbB,hrd⟩:=hl.resolve_left (fun h=>by rw[h]at hlt;simp at hlt)
      obtain ⟨x,hx⟩:∃x,l[j]?=some x:=⟨_,List.getElem?_eq_getElem hlt⟩
      obtain ⟨v,hv,hvd⟩:=RdEL.iff.1 hrd j x hx
      have hv':=hv.keep (fun q hq=>hB0.cell (show q.block<_ by rw[hq];exact hbB))
      have hbk:bk<wr.heap.size:=by omega
      have HI:=Hd (ih x (List.mem_of_getElem? hx) v r wr (RdE.more hB0.size _ _ (RdE.below hvd hB0)) hr0 (by omega))
      obtain ⟨c0,c1,c2,c3,c4,c5,c6,c7,c8,c9,c10,c11,c12,c13,c14,rfl,-⟩:=Ex.cells15 hvd
      unfold termOf at HI
      obtain ⟨q0,q1,q2,q3,q4,q5,q6,q7,q8,q9,q10,q11,q12,q13,q14⟩:=lie15 hv'
      have HX0:=Hd hx
      clear hv hvd hv' hrd hx hl ih
      go_wp2_with fail
      refine HI.out.mono ?_
      rintro e wz2 ⟨r2,rfl,g1,g2,g3,g4⟩
      have hb2:=hb.trans (g4.mono (by omega))
      have HX2:Hid (0≤r2→(∀(i:Nat) x,i<j+1→l[i]?=some x→shapeE x)∧(sizeEL (l.take (j+1)):Int)≤k-1-r2):=Hd (fun h0=>⟨fun i x' hi hx'=>by
       by_cases hij:i=j
       ·subst hij
        rw[HX0.out]at hx'
        injection hx' with hx'
        subst hx'
        exact (g3.out h0).1
       ·exact (HX.out (by omega)).1 i x' (by omega) hx',by
       have u1:=(g3.out h0).2
       have u2:=(HX.out (by omega)).2
       rw[sizeEL_take HX0.out]
       omega⟩)
      clear HX0 HX g3 g4 HI
      go_wp2
      refine ⟨⟨j+1,r2,rfl,rfl,hlt,by omega,by omega,hb2,HX2⟩,?_⟩
      simp[intOf]
      omega
     ·go_wp2
      go_ret
      exact ⟨r,rfl,by omega,by omega,Hd (fun h=>absurd h (by omega)),hB0⟩
    ·obtain rfl:j=l.length:=by omega
     go_wp2
     go_ret
     refine ⟨r,rfl,by omega,by omega,Hd (fun h=>?_),hB0⟩
     obtain ⟨u1,u2⟩:=HX.out h
     rw[List.take_length]at u2
     refine ⟨⟨HS.out.1,HS.out.2,shapeEL_iff.2 fun x hx=>?_⟩,by rw[sizeE];omega⟩
     obtain ⟨i,hi,rfl⟩:=List.getElem_of_mem hx
     exact u1 i _ hi (List.getElem?_eq_getElem hi)
 have h9b:(n != 9)=true:=by rw[bne_iff_ne];exact h9
 by_cases hlen:(l.length:Int)=n
 ·have hlb:((l.length:Int)!=n)=false:=by simp[hlen]
  have HS:=Hd (HQ.out (.inr hlen))
  clear hlen
  go_enter Tryz.func35,Tryz.ntmps35
  go_wp2_with fail
  refine HP.out.mono ?_
  rintro e w1 ⟨rfl,hb1⟩
  have hz1:Below (w.heap.size+1) (w.alloc (.cells #[.string oIs,.int .i64 a,.slice Al l.length cl,.string nm,n0,n1,n2,n3,n4,n5,n6,n7,n8,n9,n10] 32)) w1:=by rw[hsz]at hb1;exact hb1
  have hBw:=HB.out.trans (hb1.mono HB.out.size)
  have d3:w1.cell? ⟨w.heap.size,3,none⟩=some (.string nm):=(hz1.cell (p:=⟨w.heap.size,3,none⟩) (show w.heap.size<w.heap.size+1 by omega)).trans (by simp[go_sem])
  have d0:w1.cell? ⟨w.heap.size,0,none⟩=some (.string oIs):=(hz1.cell (p:=⟨w.heap.size,0,none⟩) (show w.heap.size<w.heap.size+1 by omega)).trans (by simp[go_sem])
  have d2:w1.cell? ⟨w.heap.size,2,none⟩=some (.slice Al l.length cl):=(hz1.cell (p:=⟨w.heap.size,2,none⟩) (show w.heap.size<w.heap.size+1 by omega)).trans (by simp[go_sem])
  have hsl:w.heap.size<w1.heap.size:=by have:=hz1.size;rw[hsz]at this;omega
  clear hb1
  have HI:=Hd (rin_any rkinds (some ⟨w1.drew.heap.size,0,none⟩) 10 nm (rkindsW w1.drew) (by decide) (.inr ⟨_,_,rfl,rkinds_at w1.drew⟩))
  rw[show rkinds.length=10 from rfl]at HI
  generalize idxW rkinds nm 0=q at HI
  have hz1d:=hz1.drew
  go_wp2_with fail
  refine wp_region_mix (fun W=>Below (w.heap.size+1) (w.alloc (.cells #[.string oIs,.int .i64 a,.slice Al l.length cl,.string nm,n0,n1,n2,n3,n4,n5,n6,n7,n8,n9,n10] 32)) W) [(true,1),(true,2),(false,0),(false,3),(false,4),(false,5)] (by kernel_rfl) (by kernel_rfl) (fun _ _ _ _ _ h=>h) ?_ ?_
  ·((exact hz1d))
  simp only[pickM,List.getElem?_cons_succ,List.getElem?_cons_zero]
  repeat (refine MixS.head (fun K hK=>?_);go_simp;first|(refine hK _ ?_;clear hK K)|(apply Exists.intro;refine ⟨fun W hW=>?_,hK _ ?_⟩;(first|(intros;rfl)|((have en:=(hW.cell (p:=⟨w.heap.size,3,none⟩) (show w.heap.size<w.heap.size+1 by omega)).trans (show (w.alloc (.cells #[.string oIs,.int .i64 a,.slice Al l.length cl,.string nm,n0,n1,n2,n3,n4,n5,n6,n7,n8,n9,n10] 32)).cell? ⟨w.heap.size,3,none⟩=some (.string nm) by simp[go_sem]);go_simp;rfl)));clear hK K))
  refine MixS.step (fun K hK=>?_)
  go_simp
  go_at_call 56
  refine (rkinds_any _).mono ?_
  rintro e w2 ⟨rfl,rfl⟩
  have hz:Below (w.heap.size+1) (w.alloc (.cells #[.string oIs,.int .i64 a,.slice Al l.length cl,.string nm,n0,n1,n2,n3,n4,n5,n6,n7,n8,n9,n10] 32)) (rkindsW w1.drew):=hz1d.trans ((rkinds_below _).mono (by have:=hz1d.size;rw[hsz]at this;exact this))
  refine hK _ _ hz ?_
  clear hK K
  refine MixS.step (fun K hK=>?_)
  go_simp
  go_at_call 54
  refine HI.out.mono ?_
  rintro e w2 ⟨rfl,rfl⟩
  refine hK _ _ hz ?_
  clear hK K
  generalize rkindsW w1.drew=wk at *
  cases hq:decide (0≤q)
  ·have hq0:q<0:=by simpa using hq
   refine MixS.step (fun K hK=>?_)
   go_simp
   refine hK _ _ hz ?_
   clear hK K
   refine MixS.step (fun K hK=>?_)
   go_simp
   refine hK _ _ hz ?_
   clear hK K
   refine MixS.nil ?_
   go_wp2
   go_ret
   exact ⟨-1,rfl,by omega,by omega,Hd (fun h=>absurd h (by omega)),HB.out.trans (hz.mono (by omega))⟩
  ·have hq0:0≤q:=by simpa using hq
   refine MixS.step (fun K hK=>?_)
   go_simp
   refine hK _ _ hz ?_
   clear hK K
   refine MixS.step (fun K hK=>?_)
   go_simp
   refine hK _ _ hz ?_
   clear hK K
   refine MixS.nil ?_
   have hzs:=hz.size
   rw[hsz]at hzs
   go_wp2_with fail
   go_loopw [1,7] (fun u v wr=>∃(j:Nat) (r:Int),u=.int .i64 r∧v=.int .i64 j∧j≤l.length∧-1≤r∧r≤k-1∧Below (w.heap.size+1) (w.alloc (.cells #[.string oIs,.int .i64 a,.slice Al l.length cl,.string nm,n0,n1,n2,n3,n4,n5,n6,n7,n8,n9,n10] 32)) wr∧Hid (0≤r→(∀(i:Nat) x,i<j→l[i]?=some x→shapeE x)∧(sizeEL (l.take j):Int)≤k-1-r)) (fun _ v _=>l.length-(intOf v).toNat)
   case atStart=>exact ⟨0,k-1,rfl,rfl,by omega,by omega,by omega,hz,Hd (fun _=>⟨fun i x h=>absurd h (by omega),by simp[sizeEL]⟩)⟩
   case round =>
    obtain ⟨j,r,rfl,rfl,hj,hr1,hr2,hb,HX⟩:=hrel
    have hbz:=hb.size
    rw[hsz]at hbz
    have e2:wr.cell? ⟨w.heap.size,2,none⟩=some (.slice Al l.length cl):=(hb.cell (p:=⟨w.heap.size,2,none⟩) (show w.heap.size<w.heap.size+1 by omega)).trans (by simp[go_sem])
    have hwl:w.heap.size<wr.heap.size:=by omega
    have hB0:=HB.out.trans (hb.mono (by omega))
    by_cases hlt:j<l.length
    ·by_cases hr0:0≤r
     ·obtain ⟨bk,off,rfl,hbB,hrd⟩:=hl.resolve_left (fun h=>by rw[h]at hlt;simp at hlt)
      obtain ⟨x,hx⟩:∃x,l[j]?=some x:=⟨_,List.getElem?_eq_getElem hlt⟩
      obtain ⟨v,hv,hvd⟩:=RdEL.iff.1 hrd j x hx
      have hv':=hv.keep (fun q hq=>hB0.cell (show q.block<_ by rw[hq];exact hbB))
      have hbk:bk<wr.heap.size:=by omega
      have HI:=Hd (ih x (List.mem_of_getElem? hx) v r wr (RdE.more hB0.size _ _ (RdE.below hvd hB0)) hr0 (by omega))
      obtain ⟨c0,c1,c2,c3,c4,c5,c6,c7,c8,c9,c10,c11,c12,c13,c14,rfl,-⟩:=Ex.cells15 hvd
      unfold termOf at HI
      obtain ⟨q0,q1,q2,q3,q4,q5,q6,q7,q8,q9,q10,q11,q12,q13,q14⟩:=lie15 hv'
      have HX0:=Hd hx
      clear hv hvd hv' hrd hx hl ih
      go_wp2_with fail
      refine HI.out.mono ?_
      rintro e wz2 ⟨r2,rfl,g1,g2,g3,g4⟩
      have hb2:=hb.trans (g4.mono (by omega))
      have HX2:Hid (0≤r2→(∀(i:Nat) x,i<j+1→l[i]?=some x→shapeE x)∧(sizeEL (l.take (j+1)):Int)≤k-1-r2):=Hd (fun h0=>⟨fun i x' hi hx'=>by
       by_cases hij:i=j
       ·subst hij
        rw[HX0.out]at hx'
        injection hx' with hx'
        subst hx'
        exact (g3.out h0).1
       ·exact (HX.out (by omega)).1 i x' (by omega) hx',by
       have u1:=(g3.out h0).2
       have u2:=(HX.out (by omega)).2
       rw[sizeEL_take HX0.out]
       omega⟩)
      clear HX0 HX g3 g4 HI
      go_wp2
      refine ⟨⟨j+1,r2,rfl,rfl,hlt,by omega,by omega,hb2,HX2⟩,?_⟩
      simp[intOf]
      omega
     ·go_wp2
      go_ret
      exact ⟨r,rfl,by omega,by omega,Hd (fun h=>absurd h (by omega)),hB0⟩
    ·obtain rfl:j=l.length:=by omega
     go_wp2
     go_ret
     refine ⟨r,rfl,by omega,by omega,Hd (fun h=>?_),hB0⟩
     obtain ⟨u1,u2⟩:=HX.out h
     rw[List.take_length]at u2
     refine ⟨⟨HS.out.1,HS.out.2,shapeEL_iff.2 fun x hx=>?_⟩,by rw[sizeE];omega⟩
     obtain ⟨i,hi,rfl⟩:=List.getElem_of_mem hx
     exact u1 i _ hi (List.getElem?_eq_getElem hi)
 have hlb:((l.length:Int)!=n)=true:=by rw[bne_iff_ne];exact hlen
 go_enter Tryz.func35,Tryz.ntmps35
 go_wp2_with fail
 refine HP.out.mono ?_
 rintro e w1 ⟨rfl,hb1⟩
 have hz1:Below (w.heap.size+1) (w.alloc (.cells #[.string oIs,.int .i64 a,.slice Al l.length cl,.string nm,n0,n1,n2,n3,n4,n5,n6,n7,n8,n9,n10] 32)) w1:=by rw[hsz]at hb1;exact hb1
 have hBw:=HB.out.trans (hb1.mono HB.out.size)
 have d3:w1.cell? ⟨w.heap.size,3,none⟩=some (.string nm):=(hz1.cell (p:=⟨w.heap.size,3,none⟩) (show w.heap.size<w.heap.size+1 by omega)).trans (by simp[go_sem])
 have d0:w1.cell? ⟨w.heap.size,0,none⟩=some (.string oIs):=(hz1.cell (p:=⟨w.heap.size,0,none⟩) (show w.heap.size<w.heap.size+1 by omega)).trans (by simp[go_sem])
 have d2:w1.cell? ⟨w.heap.size,2,none⟩=some (.slice Al l.length cl):=(hz1.cell (p:=⟨w.heap.size,2,none⟩) (show w.heap.size<w.heap.size+1 by omega)).trans (by simp[go_sem])
 have hsl:w.heap.size<w1.heap.size:=by have:=hz1.size;rw[hsz]at this;omega
 clear hb1
 go_wp2
 go_ret
 exact ⟨-1,rfl,by omega,by omega,Hd (fun h=>absurd h (by omega)),hBw⟩
end Go.Proofs.YtbemeapjeipjlaaGreatDoor

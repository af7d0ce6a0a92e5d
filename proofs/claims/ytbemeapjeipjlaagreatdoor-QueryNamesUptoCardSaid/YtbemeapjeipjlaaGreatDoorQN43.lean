/- Walks of the reference's query: can, Can. -/
import Derived.Test.YtbemeapjeipjlaaGreatDoorQN42
import Derived.Test.YtbemeapjeipjlaaGreatDoorQN32
set_option linter.unusedVariables false
set_option linter.unusedSimpArgs false
namespace Go.Proofs.YtbemeapjeipjlaaGreatDoor
open Go Go.RowKit
set_option maxRecDepth 100000
set_option maxHeartbeats 8000000
mutual
def shapeE:Ex→Prop
 | .mk op _ l _ _=>(op=oDot→l.length=1)∧(op=oAt→l.length=2)∧shapeEL l
def shapeEL:List Ex→Prop
 | []=>True
 | x :: r=>shapeE x∧shapeEL r
end
theorem shapeEL_iff {l:List Ex}:shapeEL l↔∀x∈l,shapeE x:=by
 induction l with
 | nil=>simp[shapeEL]
 | cons x r ih=>simp[shapeEL,ih]
mutual
def sizeE:Ex→Nat
 | .mk _ _ l _ _=>1+sizeEL l
def sizeEL:List Ex→Nat
 | []=>0
 | x :: r=>sizeE x+sizeEL r
end
theorem sizeEL_take {l:List Ex}:∀{j:Nat} {x:Ex},l[j]?=some x→sizeEL (l.take (j+1))=sizeEL (l.take j)+sizeE x:=by
 induction l with
 | nil=>intro j x h;simp at h
 | cons y r ih =>
  intro j x h
  cases j with
  | zero=>simp at h;subst h;simp[sizeEL]
  | succ j=>simp only[List.take_succ_cons,sizeEL];rw[ih (by simpa using h)];omega
def RCanPost (e:Ex) (k:Int) (w:World) (y:Ending) (w':World):Prop:=∃r:Int,y=.returned (.int .i64 r)∧-1≤r∧r≤k∧Hid (0≤r→shapeE e∧(sizeE e:Int)≤k-r)∧Below w.heap.size w w'
def RCanC (e:Ex):Prop:=∀(x:List Value) (k:Int) (w:World),RdE w w.heap.size e x→0≤k→k≤16384→Calls Tryz.prog 35 #[termOf x,.int .i64 k] w (RCanPost e k w)
theorem partsR_bound (op nm:ByteArray):-1≤partsR op nm∧partsR op nm≤9:=by
 have h:takesR nm≤2:=by unfold takesR;split <;> (try split) <;> omega
 unfold partsR
 split <;> (try split) <;> (try split) <;> (try split) <;> (try split) <;> omega
theorem partsR_dot (nm:ByteArray):partsR oDot nm=1:=by unfold partsR;simp[bytes_toList]
theorem partsR_at (nm:ByteArray):partsR oAt nm=2:=by unfold partsR;simp[bytes_toList]
def ShapeOK (op:ByteArray) (n:Nat):Prop:=(op=oDot→n=1)∧(op=oAt→n=2)
theorem Ex.cells15 {w:World} {S:Nat→Prop} {x:Ex} {v:List Value} (h:RdES w S x v):∃c0 c1 c2 c3 c4 c5 c6 c7 c8 c9 c10 c11 c12 c13 c14,v=[c0,c1,c2,c3,c4,c5,c6,c7,c8,c9,c10,c11,c12,c13,c14]∧∀u∈v,u.oneCell'=true:=by
 obtain ⟨h1,h2⟩:=h.fifteen
 match v,h1,h2 with
 | [c0,c1,c2,c3,c4,c5,c6,c7,c8,c9,c10,c11,c12,c13,c14],_,h2=>exact ⟨c0,c1,c2,c3,c4,c5,c6,c7,c8,c9,c10,c11,c12,c13,c14,rfl,h2⟩
theorem parts_shape {op nm:ByteArray} {l:List Ex} (h:partsR op nm=9∨(l.length:Int)=partsR op nm):ShapeOK op l.length:=by
 constructor
 ·rintro rfl;rw[partsR_dot]at h;omega
 ·rintro rfl;rw[partsR_at]at h;omega
theorem rcan_dot (a:Int) (l:List Ex) (nm:ByteArray) (t:Tm) (ih:∀x∈l,RCanC x):RCanC (.mk oDot a l nm t):=by
 rintro x k w ⟨Al,cl,y,rfl,hop,ha,hnm,ht,hll,hl⟩ hk0 hk
 have HP:=Hd (rparts_of oDot a (.slice Al l.length cl) nm y ht.eleven rfl (w.alloc (.cells (.string oDot :: .int .i64 a :: .slice Al l.length cl :: .string nm :: y).toArray 32)))
 have HQ:Hid (partsR oDot nm=9∨(l.length:Int)=partsR oDot nm→ShapeOK oDot l.length):=Hd parts_shape
 have hpb:=partsR_bound oDot nm
 generalize partsR oDot nm=n at *
 have hwk:IntKind.i64.wrap (k-1)=k-1:=by rw[IntKind.wrap_i64];omega
 obtain ⟨n0,n1,n2,n3,n4,n5,n6,n7,n8,n9,n10,rfl,-⟩:=ht.eleven
 unfold eV at HP
 unfold termOf
 have HB:Hid (Below w.heap.size w (w.alloc (.cells #[.string oDot,.int .i64 a,.slice Al l.length cl,.string nm,n0,n1,n2,n3,n4,n5,n6,n7,n8,n9,n10] 32))):=Hd bnew
 have hsz:(w.alloc (.cells #[.string oDot,.int .i64 a,.slice Al l.length cl,.string nm,n0,n1,n2,n3,n4,n5,n6,n7,n8,n9,n10] 32)).heap.size=w.heap.size+1:=by simp
 have HN:=Hd (fun (W:World)=>rname_any nm W hnm)
 by_cases hk1:k<1
 ·go_enter Tryz.func35,Tryz.ntmps35
  go_wp2_with fail
  refine HP.out.mono ?_
  rintro e w1 ⟨rfl,hb1⟩
  have hz1:Below (w.heap.size+1) (w.alloc (.cells #[.string oDot,.int .i64 a,.slice Al l.length cl,.string nm,n0,n1,n2,n3,n4,n5,n6,n7,n8,n9,n10] 32)) w1:=by rw[hsz]at hb1;exact hb1
  have hBw:=HB.out.trans (hb1.mono HB.out.size)
  have d3:w1.cell? ⟨w.heap.size,3,none⟩=some (.string nm):=(hz1.cell (p:=⟨w.heap.size,3,none⟩) (show w.heap.size<w.heap.size+1 by omega)).trans (by simp[go_sem])
  have d0:w1.cell? ⟨w.heap.size,0,none⟩=some (.string oDot):=(hz1.cell (p:=⟨w.heap.size,0,none⟩) (show w.heap.size<w.heap.size+1 by omega)).trans (by simp[go_sem])
  have d2:w1.cell? ⟨w.heap.size,2,none⟩=some (.slice Al l.length cl):=(hz1.cell (p:=⟨w.heap.size,2,none⟩) (show w.heap.size<w.heap.size+1 by omega)).trans (by simp[go_sem])
  have hsl:w.heap.size<w1.heap.size:=by have:=hz1.size;rw[hsz]at this;omega
  clear hb1
  go_wp2
  go_ret
  exact ⟨-1,rfl,by omega,by omega,Hd (fun h=>absurd h (by omega)),hBw⟩
 by_cases hn0:n<0
 ·go_enter Tryz.func35,Tryz.ntmps35
  go_wp2_with fail
  refine HP.out.mono ?_
  rintro e w1 ⟨rfl,hb1⟩
  have hz1:Below (w.heap.size+1) (w.alloc (.cells #[.string oDot,.int .i64 a,.slice Al l.length cl,.string nm,n0,n1,n2,n3,n4,n5,n6,n7,n8,n9,n10] 32)) w1:=by rw[hsz]at hb1;exact hb1
  have hBw:=HB.out.trans (hb1.mono HB.out.size)
  have d3:w1.cell? ⟨w.heap.size,3,none⟩=some (.string nm):=(hz1.cell (p:=⟨w.heap.size,3,none⟩) (show w.heap.size<w.heap.size+1 by omega)).trans (by simp[go_sem])
  have d0:w1.cell? ⟨w.heap.size,0,none⟩=some (.string oDot):=(hz1.cell (p:=⟨w.heap.size,0,none⟩) (show w.heap.size<w.heap.size+1 by omega)).trans (by simp[go_sem])
  have d2:w1.cell? ⟨w.heap.size,2,none⟩=some (.slice Al l.length cl):=(hz1.cell (p:=⟨w.heap.size,2,none⟩) (show w.heap.size<w.heap.size+1 by omega)).trans (by simp[go_sem])
  have hsl:w.heap.size<w1.heap.size:=by have:=hz1.size;rw[hsz]at this;omega
  clear hb1
  go_wp2
  go_ret
  exact ⟨-1,rfl,by omega,by omega,Hd (fun h=>absurd h (by omega)),hBw⟩
 by_cases h9:n=9
 ·have h9b:(n != 9)=false:=by simp[h9]
  have HS:=Hd (HQ.out (.inl h9))
  go_enter Tryz.func35,Tryz.ntmps35
  go_wp2_with fail
  refine HP.out.mono ?_
  rintro e w1 ⟨rfl,hb1⟩
  have hz1:Below (w.heap.size+1) (w.alloc (.cells #[.string oDot,.int .i64 a,.slice Al l.length cl,.string nm,n0,n1,n2,n3,n4,n5,n6,n7,n8,n9,n10] 32)) w1:=by rw[hsz]at hb1;exact hb1
  have hBw:=HB.out.trans (hb1.mono HB.out.size)
  have d3:w1.cell? ⟨w.heap.size,3,none⟩=some (.string nm):=(hz1.cell (p:=⟨w.heap.size,3,none⟩) (show w.heap.size<w.heap.size+1 by omega)).trans (by simp[go_sem])
  have d0:w1.cell? ⟨w.heap.size,0,none⟩=some (.string oDot):=(hz1.cell (p:=⟨w.heap.size,0,none⟩) (show w.heap.size<w.heap.size+1 by omega)).trans (by simp[go_sem])
  have d2:w1.cell? ⟨w.heap.size,2,none⟩=some (.slice Al l.length cl):=(hz1.cell (p:=⟨w.heap.size,2,none⟩) (show w.heap.size<w.heap.size+1 by omega)).trans (by simp[go_sem])
  have hsl:w.heap.size<w1.heap.size:=by have:=hz1.size;rw[hsz]at this;omega
  clear hb1
  go_wp2_with fail
  refine (HN.out _).mono ?_
  rintro e w2 ⟨rfl,rfl⟩
  cases nameB nm.data.toList
  ·go_wp2
   go_ret
   exact ⟨-1,rfl,by omega,by omega,Hd (fun h=>absurd h (by omega)),hBw⟩
  ·have hz:=hz1
   have hzs:=hz.size
   rw[hsz]at hzs
   go_wp2_with fail
   go_loopw [1,7] (fun u v wr=>∃(j:Nat) (r:Int),u=.int .i64 r∧v=.int .i64 j∧j≤l.length∧-1≤r∧r≤k-1∧Below (w.heap.size+1) (w.alloc (.cells #[.string oDot,.int .i64 a,.slice Al l.length cl,.string nm,n0,n1,n2,n3,n4,n5,n6,n7,n8,n9,n10] 32)) wr∧Hid (0≤r→(∀(i:Nat) x,i<j→l[i]?=some x→shapeE x)∧(sizeEL (l.take j):Int)≤k-1-r)) (fun _ v _=>l.length-(intOf v).toNat)
   case atStart=>exact ⟨0,k-1,rfl,rfl,by omega,by omega,by omega,hz,Hd (fun _=>⟨fun i x h=>absurd h (by omega),by simp[sizeEL]⟩)⟩
   case round =>
    obtain ⟨j,r,rfl,rfl,hj,hr1,hr2,hb,HX⟩:=hrel
    have hbz:=hb.size
    rw[hsz]at hbz
    have e2:wr.cell? ⟨w.heap.size,2,none⟩=some (.slice Al l.length cl):=(hb.cell (p:=⟨w.heap.size,2,none⟩) (show w.heap.size<w.heap.size+1 by omega)).trans (by simp[go_sem])
    have hwl:w.heap.size<wr.heap.size:=by omega
    have hB0:=HB.out.trans (hb.mono (by omega))
    by_cases hlt:j<l.length
    ·by_cases hr0:0≤r
     ·obtain ⟨bk,off,rfl,hbB,hrd⟩:=hl.resolve_left (fun h=>by rw[h]at hlt;simp at hlt)
      obtain ⟨x,hx⟩:∃x,l[j]?=some x:=⟨_,List.getElem?_eq_getElem hlt⟩
      obtain ⟨v,hv,hvd⟩:=RdEL.iff.1 hrd j x hx
      have hv':=hv.keep (fun q hq=>hB0.cell (show q.block<_ by rw[hq];exact hbB))
      have hbk:bk<wr.heap.size:=by omega
      have HI:=Hd (ih x (List.mem_of_getElem? hx) v r wr (RdE.more hB0.size _ _ (RdE.below hvd hB0)) hr0 (by omega))
      obtain ⟨c0,c1,c2,c3,c4,c5,c6,c7,c8,c9,c10,c11,c12,c13,c14,rfl,-⟩:=Ex.cells15 hvd
      unfold termOf at HI
      obtain ⟨q0,q1,q2,q3,q4,q5,q6,q7,q8,q9,q10,q11,q12,q13,q14⟩:=lie15 hv'
      have HX0:=Hd hx
      clear hv hvd hv' hrd hx hl ih
      go_wp2_with fail
      refine HI.out.mono ?_
      rintro e wz2 ⟨r2,rfl,g1,g2,g3,g4⟩
      have hb2:=hb.trans (g4.mono (by omega))
      have HX2:Hid (0≤r2→(∀(i:Nat) x,i<j+1→l[i]?=some x→shapeE x)∧(sizeEL (l.take (j+1)):Int)≤k-1-r2):=Hd (fun h0=>⟨fun i x' hi hx'=>by
       by_cases hij:i=j
       ·subst hij
        rw[HX0.out]at hx'
        injection hx' with hx'
        subst hx'
        exact (g3.out h0).1
       ·exact (HX.out (by omega)).1 i x' (by omega) hx',by
       have u1:=(g3.out h0).2
       have u2:=(HX.out (by omega)).2
       rw[sizeEL_take HX0.out]
       omega⟩)
      clear HX0 HX g3 g4 HI
      go_wp2
      refine ⟨⟨j+1,r2,rfl,rfl,hlt,by omega,by omega,hb2,HX2⟩,?_⟩
      simp[intOf]
      omega
     ·go_wp2
      go_ret
      exact ⟨r,rfl,by omega,by omega,Hd (fun h=>absurd h (by omega)),hB0⟩
    ·obtain rfl:j=l.length:=by omega
     go_wp2
     go_ret
     refine ⟨r,rfl,by omega,by omega,Hd (fun h=>?_),hB0⟩
     obtain ⟨u1,u2⟩:=HX.out h
     rw[List.take_length]at u2
     refine ⟨⟨HS.out.1,HS.out.2,shapeEL_iff.2 fun x hx=>?_⟩,by rw[sizeE];omega⟩
     obtain ⟨i,hi,rfl⟩:=List.getElem_of_mem hx
     exact u1 i _ hi (List.getElem?_eq_getElem hi)
 have h9b:(n != 9)=true:=by rw[bne_iff_ne];exact h9
 by_cases hlen:(l.length:Int)=n
 ·have hlb:((l.length:Int)!=n)=false:=by simp[hlen]
  have HS:=Hd (HQ.out (.inr hlen))
  clear hlen
  go_enter Tryz.func35,Tryz.ntmps35
  go_wp2_with fail
  refine HP.out.mono ?_
  rintro e w1 ⟨rfl,hb1⟩
  have hz1:Below (w.heap.size+1) (w.alloc (.cells #[.string oDot,.int .i64 a,.slice Al l.length cl,.string nm,n0,n1,n2,n3,n4,n5,n6,n7,n8,n9,n10] 32)) w1:=by rw[hsz]at hb1;exact hb1
  have hBw:=HB.out.trans (hb1.mono HB.out.size)
  have d3:w1.cell? ⟨w.heap.size,3,none⟩=some (.string nm):=(hz1.cell (p:=⟨w.heap.size,3,none⟩) (show w.heap.size<w.heap.size+1 by omega)).trans (by simp[go_sem])
  have d0:w1.cell? ⟨w.heap.size,0,none⟩=some (.string oDot):=(hz1.cell (p:=⟨w.heap.size,0,none⟩) (show w.heap.size<w.heap.size+1 by omega)).trans (by simp[go_sem])
  have d2:w1.cell? ⟨w.heap.size,2,none⟩=some (.slice Al l.length cl):=(hz1.cell (p:=⟨w.heap.size,2,none⟩) (show w.heap.size<w.heap.size+1 by omega)).trans (by simp[go_sem])
  have hsl:w.heap.size<w1.heap.size:=by have:=hz1.size;rw[hsz]at this;omega
  clear hb1
  go_wp2_with fail
  refine (HN.out _).mono ?_
  rintro e w2 ⟨rfl,rfl⟩
  cases nameB nm.data.toList
  ·go_wp2
   go_ret
   exact ⟨-1,rfl,by omega,by omega,Hd (fun h=>absurd h (by omega)),hBw⟩
  ·have hz:=hz1
   have hzs:=hz.size
   rw[hsz]at hzs
   go_wp2_with fail
   go_loopw [1,7] (fun u v wr=>∃(j:Nat) (r:Int),u=.int .i64 r∧v=.int .i64 j∧j≤l.length∧-1≤r∧r≤k-1∧Below (w.heap.size+1) (w.alloc (.cells #[.string oDot,.int .i64 a,.slice Al l.length cl,.string nm,n0,n1,n2,n3,n4,n5,n6,n7,n8,n9,n10] 32)) wr∧Hid (0≤r→(∀(i:Nat) x,i<j→l[i]?=some x→shapeE x)∧(sizeEL (l.take j):Int)≤k-1-r)) (fun _ v _=>l.length-(intOf v).toNat)
   case atStart=>exact ⟨0,k-1,rfl,rfl,by omega,by omega,by omega,hz,Hd (fun _=>⟨fun i x h=>absurd h (by omega),by simp[sizeEL]⟩)⟩
   case round =>
    obtain ⟨j,r,rfl,rfl,hj,hr1,hr2,hb,HX⟩:=hrel
    have hbz:=hb.size
    rw[hsz]at hbz
    have e2:wr.cell? ⟨w.heap.size,2,none⟩=some (.slice Al l.length cl):=(hb.cell (p:=⟨w.heap.size,2,none⟩) (show w.heap.size<w.heap.size+1 by omega)).trans (by simp[go_sem])
    have hwl:w.heap.size<wr.heap.size:=by omega
    have hB0:=HB.out.trans (hb.mono (by omega))
    by_cases hlt:j<l.length
    ·by_cases hr0:0≤r
     ·obtain ⟨bk,off,rfl,hbB,hrd⟩:=hl.resolve_left (fun h=>by rw[h]at hlt;simp at hlt)
      obtain ⟨x,hx⟩:∃x,l[j]?=some x:=⟨_,List.getElem?_eq_getElem hlt⟩
      obtain ⟨v,hv,hvd⟩:=RdEL.iff.1 hrd j x hx
      have hv':=hv.keep (fun q hq=>hB0.cell (show q.block<_ by rw[hq];exact hbB))
      have hbk:bk<wr.heap.size:=by omega
      have HI:=Hd (ih x (List.mem_of_getElem? hx) v r wr (RdE.more hB0.size _ _ (RdE.below hvd hB0)) hr0 (by omega))
      obtain ⟨c0,c1,c2,c3,c4,c5,c6,c7,c8,c9,c10,c11,c12,c13,c14,rfl,-⟩:=Ex.cells15 hvd
      unfold termOf at HI
      obtain ⟨q0,q1,q2,q3,q4,q5,q6,q7,q8,q9,q10,q11,q12,q13,q14⟩:=lie15 hv'
      have HX0:=Hd hx
      clear hv hvd hv' hrd hx hl ih
      go_wp2_with fail
      refine HI.out.mono ?_
      rintro e wz2 ⟨r2,rfl,g1,g2,g3,g4⟩
      have hb2:=hb.trans (g4.mono (by omega))
      have HX2:Hid (0≤r2→(∀(i:Nat) x,i<j+1→l[i]?=some x→shapeE x)∧(sizeEL (l.take (j+1)):Int)≤k-1-r2):=Hd (fun h0=>⟨fun i x' hi hx'=>by
       by_cases hij:i=j
       ·subst hij
        rw[HX0.out]at hx'
        injection hx' with hx'
        subst hx'
        exact (g3.out h0).1
       ·exact (HX.out (by omega)).1 i x' (by omega) hx',by
       have u1:=(g3.out h0).2
       have u2:=(HX.out (by omega)).2
       rw[sizeEL_take HX0.out]
       omega⟩)
      clear HX0 HX g3 g4 HI
      go_wp2
      refine ⟨⟨j+1,r2,rfl,rfl,hlt,by omega,by omega,hb2,HX2⟩,?_⟩
      simp[intOf]
      omega
     ·go_wp2
      go_ret
      exact ⟨r,rfl,by omega,by omega,Hd (fun h=>absurd h (by omega)),hB0⟩
    ·obtain rfl:j=l.length:=by omega
     go_wp2
     go_ret
     refine ⟨r,rfl,by omega,by omega,Hd (fun h=>?_),hB0⟩
     obtain ⟨u1,u2⟩:=HX.out h
     rw[List.take_length]at u2
     refine ⟨⟨HS.out.1,HS.out.2,shapeEL_iff.2 fun x hx=>?_⟩,by rw[sizeE];omega⟩
     obtain ⟨i,hi,rfl⟩:=List.getElem_of_mem hx
     exact u1 i _ hi (List.getElem?_eq_getElem hi)
 have hlb:((l.length:Int)!=n)=true:=by rw[bne_iff_ne];exact hlen
 go_enter Tryz.func35,Tryz.ntmps35
 go_wp2_with fail
 refine HP.out.mono ?_
 rintro e w1 ⟨rfl,hb1⟩
 have hz1:Below (w.heap.size+1) (w.alloc (.cells #[.string oDot,.int .i64 a,.slice Al l.length cl,.string nm,n0,n1,n2,n3,n4,n5,n6,n7,n8,n9,n10] 32)) w1:=by rw[hsz]at hb1;exact hb1
 have hBw:=HB.out.trans (hb1.mono HB.out.size)
 have d3:w1.cell? ⟨w.heap.size,3,none⟩=some (.string nm):=(hz1.cell (p:=⟨w.heap.size,3,none⟩) (show w.heap.size<w.heap.size+1 by omega)).trans (by simp[go_sem])
 have d0:w1.cell? ⟨w.heap.size,0,none⟩=some (.string oDot):=(hz1.cell (p:=⟨w.heap.size,0,none⟩) (show w.heap.size<w.heap.size+1 by omega)).trans (by simp[go_sem])
 have d2:w1.cell? ⟨w.heap.size,2,none⟩=some (.slice Al l.length cl):=(hz1.cell (p:=⟨w.heap.size,2,none⟩) (show w.heap.size<w.heap.size+1 by omega)).trans (by simp[go_sem])
 have hsl:w.heap.size<w1.heap.size:=by have:=hz1.size;rw[hsz]at this;omega
 clear hb1
 go_wp2
 go_ret
 exact ⟨-1,rfl,by omega,by omega,Hd (fun h=>absurd h (by omega)),hBw⟩
theorem rcan_value (a:Int) (l:List Ex) (nm:ByteArray) (t:Tm) (ih:∀x∈l,RCanC x):RCanC (.mk oValue a l nm t):=by
 rintro x k w ⟨Al,cl,y,rfl,hop,ha,hnm,ht,hll,hl⟩ hk0 hk
 have HP:=Hd (rparts_of oValue a (.slice Al l.length cl) nm y ht.eleven rfl (w.alloc (.cells (.string oValue :: .int .i64 a :: .slice Al l.length cl :: .string nm :: y).toArray 32)))
 have HQ:Hid (partsR oValue nm=9∨(l.length:Int)=partsR oValue nm→ShapeOK oValue l.length):=Hd parts_shape
 have hpb:=partsR_bound oValue nm
 generalize partsR oValue nm=n at *
 have hwk:IntKind.i64.wrap (k-1)=k-1:=by rw[IntKind.wrap_i64];omega
 obtain ⟨n0,n1,n2,n3,n4,n5,n6,n7,n8,n9,n10,rfl,-⟩:=ht.eleven
 unfold eV at HP
 unfold termOf
 have HB:Hid (Below w.heap.size w (w.alloc (.cells #[.string oValue,.int .i64 a,.slice Al l.length cl,.string nm,n0,n1,n2,n3,n4,n5,n6,n7,n8,n9,n10] 32))):=Hd bnew
 have hsz:(w.alloc (.cells #[.string oValue,.int .i64 a,.slice Al l.length cl,.string nm,n0,n1,n2,n3,n4,n5,n6,n7,n8,n9,n10] 32)).heap.size=w.heap.size+1:=by simp
 have HL:=Hd (fun (W:World) (hW:Below w.heap.size w W)=>rliteral_any t _ W (RdT.more hW.size _ _ (RdT.below ht hW)))
 unfold termOf at HL
 by_cases hk1:k<1
 ·go_enter Tryz.func35,Tryz.ntmps35
  go_wp2_with fail
  refine HP.out.mono ?_
  rintro e w1 ⟨rfl,hb1⟩
  have hz1:Below (w.heap.size+1) (w.alloc (.cells #[.string oValue,.int .i64 a,.slice Al l.length cl,.string nm,n0,n1,n2,n3,n4,n5,n6,n7,n8,n9,n10] 32)) w1:=by rw[hsz]at hb1;exact hb1
  have hBw:=HB.out.trans (hb1.mono HB.out.size)
  have d3:w1.cell? ⟨w.heap.size,3,none⟩=some (.string nm):=(hz1.cell (p:=⟨w.heap.size,3,none⟩) (show w.heap.size<w.heap.size+1 by omega)).trans (by simp[go_sem])
  have d0:w1.cell? ⟨w.heap.size,0,none⟩=some (.string oValue):=(hz1.cell (p:=⟨w.heap.size,0,none⟩) (show w.heap.size<w.heap.size+1 by omega)).trans (by simp[go_sem])
  have d2:w1.cell? ⟨w.heap.size,2,none⟩=some (.slice Al l.length cl):=(hz1.cell (p:=⟨w.heap.size,2,none⟩) (show w.heap.size<w.heap.size+1 by omega)).trans (by simp[go_sem])
  have hsl:w.heap.size<w1.heap.size:=by have:=hz1.size;rw[hsz]at this;omega
  clear hb1
  go_wp2
  go_ret
  exact ⟨-1,rfl,by omega,by omega,Hd (fun h=>absurd h (by omega)),hBw⟩
 by_cases hn0:n<0
 ·go_enter Tryz.func35,Tryz.ntmps35
  go_wp2_with fail
  refine HP.out.mono ?_
  rintro e w1 ⟨rfl,hb1⟩
  have hz1:Below (w.heap.size+1) (w.alloc (.cells #[.string oValue,.int .i64 a,.slice Al l.length cl,.string nm,n0,n1,n2,n3,n4,n5,n6,n7,n8,n9,n10] 32)) w1:=by rw[hsz]at hb1;exact hb1
  have hBw:=HB.out.trans (hb1.mono HB.out.size)
  have d3:w1.cell? ⟨w.heap.size,3,none⟩=some (.string nm):=(hz1.cell (p:=⟨w.heap.size,3,none⟩) (show w.heap.size<w.heap.size+1 by omega)).trans (by simp[go_sem])
  have d0:w1.cell? ⟨w.heap.size,0,none⟩=some (.string oValue):=(hz1.cell (p:=⟨w.heap.size,0,none⟩) (show w.heap.size<w.heap.size+1 by omega)).trans (by simp[go_sem])
  have d2:w1.cell? ⟨w.heap.size,2,none⟩=some (.slice Al l.length cl):=(hz1.cell (p:=⟨w.heap.size,2,none⟩) (show w.heap.size<w.heap.size+1 by omega)).trans (by simp[go_sem])
  have hsl:w.heap.size<w1.heap.size:=by have:=hz1.size;rw[hsz]at this;omega
  clear hb1
  go_wp2
  go_ret
  exact ⟨-1,rfl,by omega,by omega,Hd (fun h=>absurd h (by omega)),hBw⟩
 by_cases h9:n=9
 ·have h9b:(n != 9)=false:=by simp[h9]
  have HS:=Hd (HQ.out (.inl h9))
  go_enter Tryz.func35,Tryz.ntmps35
  go_wp2_with fail
  refine HP.out.mono ?_
  rintro e w1 ⟨rfl,hb1⟩
  have hz1:Below (w.heap.size+1) (w.alloc (.cells #[.string oValue,.int .i64 a,.slice Al l.length cl,.string nm,n0,n1,n2,n3,n4,n5,n6,n7,n8,n9,n10] 32)) w1:=by rw[hsz]at hb1;exact hb1
  have hBw:=HB.out.trans (hb1.mono HB.out.size)
  have d3:w1.cell? ⟨w.heap.size,3,none⟩=some (.string nm):=(hz1.cell (p:=⟨w.heap.size,3,none⟩) (show w.heap.size<w.heap.size+1 by omega)).trans (by simp[go_sem])
  have d0:w1.cell? ⟨w.heap.size,0,none⟩=some (.string oValue):=(hz1.cell (p:=⟨w.heap.size,0,none⟩) (show w.heap.size<w.heap.size+1 by omega)).trans (by simp[go_sem])
  have d2:w1.cell? ⟨w.heap.size,2,none⟩=some (.slice Al l.length cl):=(hz1.cell (p:=⟨w.heap.size,2,none⟩) (show w.heap.size<w.heap.size+1 by omega)).trans (by simp[go_sem])
  have hsl:w.heap.size<w1.heap.size:=by have:=hz1.size;rw[hsz]at this;omega
  clear hb1
  have d4:w1.cell? ⟨w.heap.size,4,none⟩=some n0:=(hz1.cell (p:=⟨w.heap.size,4,none⟩) (show w.heap.size<w.heap.size+1 by omega)).trans (by simp[go_sem])
  have d5:w1.cell? ⟨w.heap.size,5,none⟩=some n1:=(hz1.cell (p:=⟨w.heap.size,5,none⟩) (show w.heap.size<w.heap.size+1 by omega)).trans (by simp[go_sem])
  have d6:w1.cell? ⟨w.heap.size,6,none⟩=some n2:=(hz1.cell (p:=⟨w.heap.size,6,none⟩) (show w.heap.size<w.heap.size+1 by omega)).trans (by simp[go_sem])
  have d7:w1.cell? ⟨w.heap.size,7,none⟩=some n3:=(hz1.cell (p:=⟨w.heap.size,7,none⟩) (show w.heap.size<w.heap.size+1 by omega)).trans (by simp[go_sem])
  have d8:w1.cell? ⟨w.heap.size,8,none⟩=some n4:=(hz1.cell (p:=⟨w.heap.size,8,none⟩) (show w.heap.size<w.heap.size+1 by omega)).trans (by simp[go_sem])
  have d9:w1.cell? ⟨w.heap.size,9,none⟩=some n5:=(hz1.cell (p:=⟨w.heap.size,9,none⟩) (show w.heap.size<w.heap.size+1 by omega)).trans (by simp[go_sem])
  have d10:w1.cell? ⟨w.heap.size,10,none⟩=some n6:=(hz1.cell (p:=⟨w.heap.size,10,none⟩) (show w.heap.size<w.heap.size+1 by omega)).trans (by simp[go_sem])
  have d11:w1.cell? ⟨w.heap.size,11,none⟩=some n7:=(hz1.cell (p:=⟨w.heap.size,11,none⟩) (show w.heap.size<w.heap.size+1 by omega)).trans (by simp[go_sem])
  have d12:w1.cell? ⟨w.heap.size,12,none⟩=some n8:=(hz1.cell (p:=⟨w.heap.size,12,none⟩) (show w.heap.size<w.heap.size+1 by omega)).trans (by simp[go_sem])
  have d13:w1.cell? ⟨w.heap.size,13,none⟩=some n9:=(hz1.cell (p:=⟨w.heap.size,13,none⟩) (show w.heap.size<w.heap.size+1 by omega)).trans (by simp[go_sem])
  have d14:w1.cell? ⟨w.heap.size,14,none⟩=some n10:=(hz1.cell (p:=⟨w.heap.size,14,none⟩) (show w.heap.size<w.heap.size+1 by omega)).trans (by simp[go_sem])
  go_wp2_with fail
  refine (HL.out _ hBw).mono ?_
  rintro e w2 ⟨ok,rfl,hbl⟩
  have hz:=hz1.trans (hbl.mono (by omega))
  cases ok
  ·go_wp2
   go_ret
   exact ⟨-1,rfl,by omega,by omega,Hd (fun h=>absurd h (by omega)),HB.out.trans (hz.mono (by omega))⟩
  ·have hzs:=hz.size
   rw[hsz]at hzs
   go_wp2_with fail
   go_loopw [1,7] (fun u v wr=>∃(j:Nat) (r:Int),u=.int .i64 r∧v=.int .i64 j∧j≤l.length∧-1≤r∧r≤k-1∧Below (w.heap.size+1) (w.alloc (.cells #[.string oValue,.int .i64 a,.slice Al l.length cl,.string nm,n0,n1,n2,n3,n4,n5,n6,n7,n8,n9,n10] 32)) wr∧Hid (0≤r→(∀(i:Nat) x,i<j→l[i]?=some x→shapeE x)∧(sizeEL (l.take j):Int)≤k-1-r)) (fun _ v _=>l.length-(intOf v).toNat)
   case atStart=>exact ⟨0,k-1,rfl,rfl,by omega,by omega,by omega,hz,Hd (fun _=>⟨fun i x h=>absurd h (by omega),by simp[sizeEL]⟩)⟩
   case round =>
    obtain ⟨j,r,rfl,rfl,hj,hr1,hr2,hb,HX⟩:=hrel
    have hbz:=hb.size
    rw[hsz]at hbz
    have e2:wr.cell? ⟨w.heap.size,2,none⟩=some (.slice Al l.length cl):=(hb.cell (p:=⟨w.heap.size,2,none⟩) (show w.heap.size<w.heap.size+1 by omega)).trans (by simp[go_sem])
    have hwl:w.heap.size<wr.heap.size:=by omega
    have hB0:=HB.out.trans (hb.mono (by omega))
    by_cases hlt:j<l.length
    ·by_cases hr0:0≤r
     ·obtain ⟨bk,off,rfl,hbB,hrd⟩:=hl.resolve_left (fun h=>by rw[h]at hlt;simp at hlt)
      obtain ⟨x,hx⟩:∃x,l[j]?=some x:=⟨_,List.getElem?_eq_getElem hlt⟩
      obtain ⟨v,hv,hvd⟩:=RdEL.iff.1 hrd j x hx
      have hv':=hv.keep (fun q hq=>hB0.cell (show q.block<_ by rw[hq];exact hbB))
      have hbk:bk<wr.heap.size:=by omega
      have HI:=Hd (ih x (List.mem_of_getElem? hx) v r wr (RdE.more hB0.size _ _ (RdE.below hvd hB0)) hr0 (by omega))
      obtain ⟨c0,c1,c2,c3,c4,c5,c6,c7,c8,c9,c10,c11,c12,c13,c14,rfl,-⟩:=Ex.cells15 hvd
      unfold termOf at HI
      obtain ⟨q0,q1,q2,q3,q4,q5,q6,q7,q8,q9,q10,q11,q12,q13,q14⟩:=lie15 hv'
      have HX0:=Hd hx
      clear hv hvd hv' hrd hx hl ih
      go_wp2_with fail
      refine HI.out.mono ?_
      rintro e wz2 ⟨r2,rfl,g1,g2,g3,g4⟩
      have hb2:=hb.trans (g4.mono (by omega))
      have HX2:Hid (0≤r2→(∀(i:Nat) x,i<j+1→l[i]?=some x→shapeE x)∧(sizeEL (l.take (j+1)):Int)≤k-1-r2):=Hd (fun h0=>⟨fun i x' hi hx'=>by
       by_cases hij:i=j
       ·subst hij
        rw[HX0.out]at hx'
        injection hx' with hx'
        subst hx'
        exact (g3.out h0).1
       ·exact (HX.out (by omega)).1 i x' (by omega) hx',by
       have u1:=(g3.out h0).2
       have u2:=(HX.out (by omega)).2
       rw[sizeEL_take HX0.out]
       omega⟩)
      clear HX0 HX g3 g4 HI
      go_wp2
      refine ⟨⟨j+1,r2,rfl,rfl,hlt,by omega,by omega,hb2,HX2⟩,?_⟩
      simp[intOf]
      omega
     ·go_wp2
      go_ret
      exact ⟨r,rfl,by omega,by omega,Hd (fun h=>absurd h (by omega)),hB0⟩
    ·obtain rfl:j=l.length:=by omega
     go_wp2
     go_ret
     refine ⟨r,rfl,by omega,by omega,Hd (fun h=>?_),hB0⟩
     obtain ⟨u1,u2⟩:=HX.out h
     rw[List.take_length]at u2
     refine ⟨⟨HS.out.1,HS.out.2,shapeEL_iff.2 fun x hx=>?_⟩,by rw[sizeE];omega⟩
     obtain ⟨i,hi,rfl⟩:=List.getElem_of_mem hx
     exact u1 i _ hi (List.getElem?_eq_getElem hi)
 have h9b:(n != 9)=true:=by rw[bne_iff_ne];exact h9
 by_cases hlen:(l.length:Int)=n
 ·have hlb:((l.length:Int)!=n)=false:=by simp[hlen]
  have HS:=Hd (HQ.out (.inr hlen))
  clear hlen
  go_enter Tryz.func35,Tryz.ntmps35
  go_wp2_with fail
  refine HP.out.mono ?_
  rintro e w1 ⟨rfl,hb1⟩
  have hz1:Below (w.heap.size+1) (w.alloc (.cells #[.string oValue,.int .i64 a,.slice Al l.length cl,.string nm,n0,n1,n2,n3,n4,n5,n6,n7,n8,n9,n10] 32)) w1:=by rw[hsz]at hb1;exact hb1
  have hBw:=HB.out.trans (hb1.mono HB.out.size)
  have d3:w1.cell? ⟨w.heap.size,3,none⟩=some (.string nm):=(hz1.cell (p:=⟨w.heap.size,3,none⟩) (show w.heap.size<w.heap.size+1 by omega)).trans (by simp[go_sem])
  have d0:w1.cell? ⟨w.heap.size,0,none⟩=some (.string oValue):=(hz1.cell (p:=⟨w.heap.size,0,none⟩) (show w.heap.size<w.heap.size+1 by omega)).trans (by simp[go_sem])
  have d2:w1.cell? ⟨w.heap.size,2,none⟩=some (.slice Al l.length cl):=(hz1.cell (p:=⟨w.heap.size,2,none⟩) (show w.heap.size<w.heap.size+1 by omega)).trans (by simp[go_sem])
  have hsl:w.heap.size<w1.heap.size:=by have:=hz1.size;rw[hsz]at this;omega
  clear hb1
  have d4:w1.cell? ⟨w.heap.size,4,none⟩=some n0:=(hz1.cell (p:=⟨w.heap.size,4,none⟩) (show w.heap.size<w.heap.size+1 by omega)).trans (by simp[go_sem])
  have d5:w1.cell? ⟨w.heap.size,5,none⟩=some n1:=(hz1.cell (p:=⟨w.heap.size,5,none⟩) (show w.heap.size<w.heap.size+1 by omega)).trans (by simp[go_sem])
  have d6:w1.cell? ⟨w.heap.size,6,none⟩=some n2:=(hz1.cell (p:=⟨w.heap.size,6,none⟩) (show w.heap.size<w.heap.size+1 by omega)).trans (by simp[go_sem])
  have d7:w1.cell? ⟨w.heap.size,7,none⟩=some n3:=(hz1.cell (p:=⟨w.heap.size,7,none⟩) (show w.heap.size<w.heap.size+1 by omega)).trans (by simp[go_sem])
  have d8:w1.cell? ⟨w.heap.size,8,none⟩=some n4:=(hz1.cell (p:=⟨w.heap.size,8,none⟩) (show w.heap.size<w.heap.size+1 by omega)).trans (by simp[go_sem])
  have d9:w1.cell? ⟨w.heap.size,9,none⟩=some n5:=(hz1.cell (p:=⟨w.heap.size,9,none⟩) (show w.heap.size<w.heap.size+1 by omega)).trans (by simp[go_sem])
  have d10:w1.cell? ⟨w.heap.size,10,none⟩=some n6:=(hz1.cell (p:=⟨w.heap.size,10,none⟩) (show w.heap.size<w.heap.size+1 by omega)).trans (by simp[go_sem])
  have d11:w1.cell? ⟨w.heap.size,11,none⟩=some n7:=(hz1.cell (p:=⟨w.heap.size,11,none⟩) (show w.heap.size<w.heap.size+1 by omega)).trans (by simp[go_sem])
  have d12:w1.cell? ⟨w.heap.size,12,none⟩=some n8:=(hz1.cell (p:=⟨w.heap.size,12,none⟩) (show w.heap.size<w.heap.size+1 by omega)).trans (by simp[go_sem])
  have d13:w1.cell? ⟨w.heap.size,13,none⟩=some n9:=(hz1.cell (p:=⟨w.heap.size,13,none⟩) (show w.heap.size<w.heap.size+1 by omega)).trans (by simp[go_sem])
  have d14:w1.cell? ⟨w.heap.size,14,none⟩=some n10:=(hz1.cell (p:=⟨w.heap.size,14,none⟩) (show w.heap.size<w.heap.size+1 by omega)).trans (by simp[go_sem])
  go_wp2_with fail
  refine (HL.out _ hBw).mono ?_
  rintro e w2 ⟨ok,rfl,hbl⟩
  have hz:=hz1.trans (hbl.mono (by omega))
  cases ok
  ·go_wp2
   go_ret
   exact ⟨-1,rfl,by omega,by omega,Hd (fun h=>absurd h (by omega)),HB.out.trans (hz.mono (by omega))⟩
  ·have hzs:=hz.size
   rw[hsz]at hzs
   go_wp2_with fail
   go_loopw [1,7] (fun u v wr=>∃(j:Nat) (r:Int),u=.int .i64 r∧v=.int .i64 j∧j≤l.length∧-1≤r∧r≤k-1∧Below (w.heap.size+1) (w.alloc (.cells #[.string oValue,.int .i64 a,.slice Al l.length cl,.string nm,n0,n1,n2,n3,n4,n5,n6,n7,n8,n9,n10] 32)) wr∧Hid (0≤r→(∀(i:Nat) x,i<j→l[i]?=some x→shapeE x)∧(sizeEL (l.take j):Int)≤k-1-r)) (fun _ v _=>l.length-(intOf v).toNat)
   case atStart=>exact ⟨0,k-1,rfl,rfl,by omega,by omega,by omega,hz,Hd (fun _=>⟨fun i x h=>absurd h (by omega),by simp[sizeEL]⟩)⟩
   case round =>
    obtain ⟨j,r,rfl,rfl,hj,hr1,hr2,hb,HX⟩:=hrel
    have hbz:=hb.size
    rw[hsz]at hbz
    have e2:wr.cell? ⟨w.heap.size,2,none⟩=some (.slice Al l.length cl):=(hb.cell (p:=⟨w.heap.size,2,none⟩) (show w.heap.size<w.heap.size+1 by omega)).trans (by simp[go_sem])
    have hwl:w.heap.size<wr.heap.size:=by omega
    have hB0:=HB.out.trans (hb.mono (by omega))
    by_cases hlt:j<l.length
    ·by_cases hr0:0≤r
     ·obtain ⟨bk,off,rfl,hbB,hrd⟩:=hl.resolve_left (fun h=>by rw[h]at hlt;simp at hlt)
      obtain ⟨x,hx⟩:∃x,l[j]?=some x:=⟨_,List.getElem?_eq_getElem hlt⟩
      obtain ⟨v,hv,hvd⟩:=RdEL.iff.1 hrd j x hx
      have hv':=hv.keep (fun q hq=>hB0.cell (show q.block<_ by rw[hq];exact hbB))
      have hbk:bk<wr.heap.size:=by omega
      have HI:=Hd (ih x (List.mem_of_getElem? hx) v r wr (RdE.more hB0.size _ _ (RdE.below hvd hB0)) hr0 (by omega))
      obtain ⟨c0,c1,c2,c3,c4,c5,c6,c7,c8,c9,c10,c11,c12,c13,c14,rfl,-⟩:=Ex.cells15 hvd
      unfold termOf at HI
      obtain ⟨q0,q1,q2,q3,q4,q5,q6,q7,q8,q9,q10,q11,q12,q13,q14⟩:=lie15 hv'
      have HX0:=Hd hx
      clear hv hvd hv' hrd hx hl ih
      go_wp2_with fail
      refine HI.out.mono ?_
      rintro e wz2 ⟨r2,rfl,g1,g2,g3,g4⟩
      have hb2:=hb.trans (g4.mono (by omega))
      have HX2:Hid (0≤r2→(∀(i:Nat) x,i<j+1→l[i]?=some x→shapeE x)∧(sizeEL (l.take (j+1)):Int)≤k-1-r2):=Hd (fun h0=>⟨fun i x' hi hx'=>by
       by_cases hij:i=j
       ·subst hij
        rw[HX0.out]at hx'
        injection hx' with hx'
        subst hx'
        exact (g3.out h0).1
       ·exact (HX.out (by omega)).1 i x' (by omega) hx',by
       have u1:=(g3.out h0).2
       have u2:=(HX.out (by omega)).2
       rw[sizeEL_take HX0.out]
       omega⟩)
      clear HX0 HX g3 g4 HI
      go_wp2
      refine ⟨⟨j+1,r2,rfl,rfl,hlt,by omega,by omega,hb2,HX2⟩,?_⟩
      simp[intOf]
      omega
     ·go_wp2
      go_ret
      exact ⟨r,rfl,by omega,by omega,Hd (fun h=>absurd h (by omega)),hB0⟩
    ·obtain rfl:j=l.length:=by omega
     go_wp2
     go_ret
     refine ⟨r,rfl,by omega,by omega,Hd (fun h=>?_),hB0⟩
     obtain ⟨u1,u2⟩:=HX.out h
     rw[List.take_length]at u2
     refine ⟨⟨HS.out.1,HS.out.2,shapeEL_iff.2 fun x hx=>?_⟩,by rw[sizeE];omega⟩
     obtain ⟨i,hi,rfl⟩:=List.getElem_of_mem hx
     exact u1 i _ hi (List.getElem?_eq_getElem hi)
 have hlb:((l.length:Int)!=n)=true:=by rw[bne_iff_ne];exact hlen
 go_enter Tryz.func35,Tryz.ntmps35
 go_wp2_with fail
 refine HP.out.mono ?_
 rintro e w1 ⟨rfl,hb1⟩
 have hz1:Below (w.heap.size+1) (w.alloc (.cells #[.string oValue,.int .i64 a,.slice Al l.length cl,.string nm,n0,n1,n2,n3,n4,n5,n6,n7,n8,n9,n10] 32)) w1:=by rw[hsz]at hb1;exact hb1
 have hBw:=HB.out.trans (hb1.mono HB.out.size)
 have d3:w1.cell? ⟨w.heap.size,3,none⟩=some (.string nm):=(hz1.cell (p:=⟨w.heap.size,3,none⟩) (show w.heap.size<w.heap.size+1 by omega)).trans (by simp[go_sem])
 have d0:w1.cell? ⟨w.heap.size,0,none⟩=some (.string oValue):=(hz1.cell (p:=⟨w.heap.size,0,none⟩) (show w.heap.size<w.heap.size+1 by omega)).trans (by simp[go_sem])
 have d2:w1.cell? ⟨w.heap.size,2,none⟩=some (.slice Al l.length cl):=(hz1.cell (p:=⟨w.heap.size,2,none⟩) (show w.heap.size<w.heap.size+1 by omega)).trans (by simp[go_sem])
 have hsl:w.heap.size<w1.heap.size:=by have:=hz1.size;rw[hsz]at this;omega
 clear hb1
 go_wp2
 go_ret
 exact ⟨-1,rfl,by omega,by omega,Hd (fun h=>absurd h (by omega)),hBw⟩
theorem rcan_other (op:ByteArray) (e1:op≠oValue) (e2:op≠oField) (e3:op≠oDot) (e4:op≠oIs) (a:Int) (l:List Ex) (nm:ByteArray) (t:Tm) (ih:∀x∈l,RCanC x):RCanC (.mk op a l nm t):=by
 rintro x k w ⟨Al,cl,y,rfl,hop,ha,hnm,ht,hll,hl⟩ hk0 hk
 have HP:=Hd (rparts_of op a (.slice Al l.length cl) nm y ht.eleven rfl (w.alloc (.cells (.string op :: .int .i64 a :: .slice Al l.length cl :: .string nm :: y).toArray 32)))
 have HQ:Hid (partsR op nm=9∨(l.length:Int)=partsR op nm→ShapeOK op l.length):=Hd parts_shape
 have hpb:=partsR_bound op nm
 generalize partsR op nm=n at *
 have hwk:IntKind.i64.wrap (k-1)=k-1:=by rw[IntKind.wrap_i64];omega
 obtain ⟨n0,n1,n2,n3,n4,n5,n6,n7,n8,n9,n10,rfl,-⟩:=ht.eleven
 unfold eV at HP
 unfold termOf
 have HB:Hid (Below w.heap.size w (w.alloc (.cells #[.string op,.int .i64 a,.slice Al l.length cl,.string nm,n0,n1,n2,n3,n4,n5,n6,n7,n8,n9,n10] 32))):=Hd bnew
 have hsz:(w.alloc (.cells #[.string op,.int .i64 a,.slice Al l.length cl,.string nm,n0,n1,n2,n3,n4,n5,n6,n7,n8,n9,n10] 32)).heap.size=w.heap.size+1:=by simp
 have g1:=neS [118,97,108,117,101] e1
 have g2:=neS [102,105,101,108,100] e2
 have g3:=neS [100,111,116] e3
 have g4:=neS [105,115] e4
 clear e1 e2 e3 e4
 by_cases hk1:k<1
 ·go_enter Tryz.func35,Tryz.ntmps35
  go_wp2_with fail
  refine HP.out.mono ?_
  rintro e w1 ⟨rfl,hb1⟩
  have hz1:Below (w.heap.size+1) (w.alloc (.cells #[.string op,.int .i64 a,.slice Al l.length cl,.string nm,n0,n1,n2,n3,n4,n5,n6,n7,n8,n9,n10] 32)) w1:=by rw[hsz]at hb1;exact hb1
  have hBw:=HB.out.trans (hb1.mono HB.out.size)
  have d3:w1.cell? ⟨w.heap.size,3,none⟩=some (.string nm):=(hz1.cell (p:=⟨w.heap.size,3,none⟩) (show w.heap.size<w.heap.size+1 by omega)).trans (by simp[go_sem])
  have d0:w1.cell? ⟨w.heap.size,0,none⟩=some (.string op):=(hz1.cell (p:=⟨w.heap.size,0,none⟩) (show w.heap.size<w.heap.size+1 by omega)).trans (by simp[go_sem])
  have d2:w1.cell? ⟨w.heap.size,2,none⟩=some (.slice Al l.length cl):=(hz1.cell (p:=⟨w.heap.size,2,none⟩) (show w.heap.size<w.heap.size+1 by omega)).trans (by simp[go_sem])
  have hsl:w.heap.size<w1.heap.size:=by have:=hz1.size;rw[hsz]at this;omega
  clear hb1
  go_wp2
  go_ret
  exact ⟨-1,rfl,by omega,by omega,Hd (fun h=>absurd h (by omega)),hBw⟩
 by_cases hn0:n<0
 ·go_enter Tryz.func35,Tryz.ntmps35
  go_wp2_with fail
  refine HP.out.mono ?_
  rintro e w1 ⟨rfl,hb1⟩
  have hz1:Below (w.heap.size+1) (w.alloc (.cells #[.string op,.int .i64 a,.slice Al l.length cl,.string nm,n0,n1,n2,n3,n4,n5,n6,n7,n8,n9,n10] 32)) w1:=by rw[hsz]at hb1;exact hb1
  have hBw:=HB.out.trans (hb1.mono HB.out.size)
  have d3:w1.cell? ⟨w.heap.size,3,none⟩=some (.string nm):=(hz1.cell (p:=⟨w.heap.size,3,none⟩) (show w.heap.size<w.heap.size+1 by omega)).trans (by simp[go_sem])
  have d0:w1.cell? ⟨w.heap.size,0,none⟩=some (.string op):=(hz1.cell (p:=⟨w.heap.size,0,none⟩) (show w.heap.size<w.heap.size+1 by omega)).trans (by simp[go_sem])
  have d2:w1.cell? ⟨w.heap.size,2,none⟩=some (.slice Al l.length cl):=(hz1.cell (p:=⟨w.heap.size,2,none⟩) (show w.heap.size<w.heap.size+1 by omega)).trans (by simp[go_sem])
  have hsl:w.heap.size<w1.heap.size:=by have:=hz1.size;rw[hsz]at this;omega
  clear hb1
  go_wp2
  go_ret
  exact ⟨-1,rfl,by omega,by omega,Hd (fun h=>absurd h (by omega)),hBw⟩
 by_cases h9:n=9
 ·have h9b:(n != 9)=false:=by simp[h9]
  have HS:=Hd (HQ.out (.inl h9))
  go_enter Tryz.func35,Tryz.ntmps35
  go_wp2_with fail
  refine HP.out.mono ?_
  rintro e w1 ⟨rfl,hb1⟩
  have hz1:Below (w.heap.size+1) (w.alloc (.cells #[.string op,.int .i64 a,.slice Al l.length cl,.string nm,n0,n1,n2,n3,n4,n5,n6,n7,n8,n9,n10] 32)) w1:=by rw[hsz]at hb1;exact hb1
  have hBw:=HB.out.trans (hb1.mono HB.out.size)
  have d3:w1.cell? ⟨w.heap.size,3,none⟩=some (.string nm):=(hz1.cell (p:=⟨w.heap.size,3,none⟩) (show w.heap.size<w.heap.size+1 by omega)).trans (by simp[go_sem])
  have d0:w1.cell? ⟨w.heap.size,0,none⟩=some (.string op):=(hz1.cell (p:=⟨w.heap.size,0,none⟩) (show w.heap.size<w.heap.size+1 by omega)).trans (by simp[go_sem])
  have d2:w1.cell? ⟨w.heap.size,2,none⟩=some (.slice Al l.length cl):=(hz1.cell (p:=⟨w.heap.size,2,none⟩) (show w.heap.size<w.heap.size+1 by omega)).trans (by simp[go_sem])
  have hsl:w.heap.size<w1.heap.size:=by have:=hz1.size;rw[hsz]at this;omega
  clear hb1
  have hz:=hz1
  have hzs:=hz.size
  rw[hsz]at hzs
  go_wp2_with fail
  go_loopw [1,7] (fun u v wr=>∃(j:Nat) (r:Int),u=.int .i64 r∧v=.int .i64 j∧j≤l.length∧-1≤r∧r≤k-1∧Below (w.heap.size+1) (w.alloc (.cells #[.string op,.int .i64 a,.slice Al l.length cl,.string nm,n0,n1,n2,n3,n4,n5,n6,n7,n8,n9,n10] 32)) wr∧Hid (0≤r→(∀(i:Nat) x,i<j→l[i]?=some x→shapeE x)∧(sizeEL (l.take j):Int)≤k-1-r)) (fun _ v _=>l.length-(intOf v).toNat)
  case atStart=>exact ⟨0,k-1,rfl,rfl,by omega,by omega,by omega,hz,Hd (fun _=>⟨fun i x h=>absurd h (by omega),by simp[sizeEL]⟩)⟩
  case round =>
   obtain ⟨j,r,rfl,rfl,hj,hr1,hr2,hb,HX⟩:=hrel
   have hbz:=hb.size
   rw[hsz]at hbz
   have e2:wr.cell? ⟨w.heap.size,2,none⟩=some (.slice Al l.length cl):=(hb.cell (p:=⟨w.heap.size,2,none⟩) (show w.heap.size<w.heap.size+1 by omega)).trans (by simp[go_sem])
   have hwl:w.heap.size<wr.heap.size:=by omega
   have hB0:=HB.out.trans (hb.mono (by omega))
   by_cases hlt:j<l.length
   ·by_cases hr0:0≤r
    ·obtain ⟨bk,off,rfl,hbB,hrd⟩:=hl.resolve_left (fun h=>by rw[h]at hlt;simp at hlt)
     obtain ⟨x,hx⟩:∃x,l[j]?=some x:=⟨_,List.getElem?_eq_getElem hlt⟩
     obtain ⟨v,hv,hvd⟩:=RdEL.iff.1 hrd j x hx
     have hv':=hv.keep (fun q hq=>hB0.cell (show q.block<_ by rw[hq];exact hbB))
     have hbk:bk<wr.heap.size:=by omega
     have HI:=Hd (ih x (List.mem_of_getElem? hx) v r wr (RdE.more hB0.size _ _ (RdE.below hvd hB0)) hr0 (by omega))
     obtain ⟨c0,c1,c2,c3,c4,c5,c6,c7,c8,c9,c10,c11,c12,c13,c14,rfl,-⟩:=Ex.cells15 hvd
     unfold termOf at HI
     obtain ⟨q0,q1,q2,q3,q4,q5,q6,q7,q8,q9,q10,q11,q12,q13,q14⟩:=lie15 hv'
     have HX0:=Hd hx
     clear hv hvd hv' hrd hx hl ih
     go_wp2_with fail
     refine HI.out.mono ?_
     rintro e wz2 ⟨r2,rfl,g1,g2,g3,g4⟩
     have hb2:=hb.trans (g4.mono (by omega))
     have HX2:Hid (0≤r2→(∀(i:Nat) x,i<j+1→l[i]?=some x→shapeE x)∧(sizeEL (l.take (j+1)):Int)≤k-1-r2):=Hd (fun h0=>⟨fun i x' hi hx'=>by
      by_cases hij:i=j
      ·subst hij
       rw[HX0.out]at hx'
       injection hx' with hx'
       subst hx'
       exact (g3.out h0).1
      ·exact (HX.out (by omega)).1 i x' (by omega) hx',by
      have u1:=(g3.out h0).2
      have u2:=(HX.out (by omega)).2
      rw[sizeEL_take HX0.out]
      omega⟩)
     clear HX0 HX g3 g4 HI
     go_wp2
     refine ⟨⟨j+1,r2,rfl,rfl,hlt,by omega,by omega,hb2,HX2⟩,?_⟩
     simp[intOf]
     omega
    ·go_wp2
     go_ret
     exact ⟨r,rfl,by omega,by omega,Hd (fun h=>absurd h (by omega)),hB0⟩
   ·obtain rfl:j=l.length:=by omega
    go_wp2
    go_ret
    refine ⟨r,rfl,by omega,by omega,Hd (fun h=>?_),hB0⟩
    obtain ⟨u1,u2⟩:=HX.out h
    rw[List.take_length]at u2
    refine ⟨⟨HS.out.1,HS.out.2,shapeEL_iff.2 fun x hx=>?_⟩,by rw[sizeE];omega⟩
    obtain ⟨i,hi,rfl⟩:=List.getElem_of_mem hx
    exact u1 i _ hi (List.getElem?_eq_getElem hi)
 have h9b:(n != 9)=true:=by rw[bne_iff_ne];exact h9
 by_cases hlen:(l.length:Int)=n
 ·have hlb:((l.length:Int)!=n)=false:=by simp[hlen]
  have HS:=Hd (HQ.out (.inr hlen))
  clear hlen
  go_enter Tryz.func35,Tryz.ntmps35
  go_wp2_with fail
  refine HP.out.mono ?_
  rintro e w1 ⟨rfl,hb1⟩
  have hz1:Below (w.heap.size+1) (w.alloc (.cells #[.string op,.int .i64 a,.slice Al l.length cl,.string nm,n0,n1,n2,n3,n4,n5,n6,n7,n8,n9,n10] 32)) w1:=by rw[hsz]at hb1;exact hb1
  have hBw:=HB.out.trans (hb1.mono HB.out.size)
  have d3:w1.cell? ⟨w.heap.size,3,none⟩=some (.string nm):=(hz1.cell (p:=⟨w.heap.size,3,none⟩) (show w.heap.size<w.heap.size+1 by omega)).trans (by simp[go_sem])
  have d0:w1.cell? ⟨w.heap.size,0,none⟩=some (.string op):=(hz1.cell (p:=⟨w.heap.size,0,none⟩) (show w.heap.size<w.heap.size+1 by omega)).trans (by simp[go_sem])
  have d2:w1.cell? ⟨w.heap.size,2,none⟩=some (.slice Al l.length cl):=(hz1.cell (p:=⟨w.heap.size,2,none⟩) (show w.heap.size<w.heap.size+1 by omega)).trans (by simp[go_sem])
  have hsl:w.heap.size<w1.heap.size:=by have:=hz1.size;rw[hsz]at this;omega
  clear hb1
  have hz:=hz1
  have hzs:=hz.size
  rw[hsz]at hzs
  go_wp2_with fail
  go_loopw [1,7] (fun u v wr=>∃(j:Nat) (r:Int),u=.int .i64 r∧v=.int .i64 j∧j≤l.length∧-1≤r∧r≤k-1∧Below (w.heap.size+1) (w.alloc (.cells #[.string op,.int .i64 a,.slice Al l.length cl,.string nm,n0,n1,n2,n3,n4,n5,n6,n7,n8,n9,n10] 32)) wr∧Hid (0≤r→(∀(i:Nat) x,i<j→l[i]?=some x→shapeE x)∧(sizeEL (l.take j):Int)≤k-1-r)) (fun _ v _=>l.length-(intOf v).toNat)
  case atStart=>exact ⟨0,k-1,rfl,rfl,by omega,by omega,by omega,hz,Hd (fun _=>⟨fun i x h=>absurd h (by omega),by simp[sizeEL]⟩)⟩
  case round =>
   obtain ⟨j,r,rfl,rfl,hj,hr1,hr2,hb,HX⟩:=hrel
   have hbz:=hb.size
   rw[hsz]at hbz
   have e2:wr.cell? ⟨w.heap.size,2,none⟩=some (.slice Al l.length cl):=(hb.cell (p:=⟨w.heap.size,2,none⟩) (show w.heap.size<w.heap.size+1 by omega)).trans (by simp[go_sem])
   have hwl:w.heap.size<wr.heap.size:=by omega
   have hB0:=HB.out.trans (hb.mono (by omega))
   by_cases hlt:j<l.length
   ·by_cases hr0:0≤r
    ·obtain ⟨bk,off,rfl,hbB,hrd⟩:=hl.resolve_left (fun h=>by rw[h]at hlt;simp at hlt)
     obtain ⟨x,hx⟩:∃x,l[j]?=some x:=⟨_,List.getElem?_eq_getElem hlt⟩
     obtain ⟨v,hv,hvd⟩:=RdEL.iff.1 hrd j x hx
     have hv':=hv.keep (fun q hq=>hB0.cell (show q.block<_ by rw[hq];exact hbB))
     have hbk:bk<wr.heap.size:=by omega
     have HI:=Hd (ih x (List.mem_of_getElem? hx) v r wr (RdE.more hB0.size _ _ (RdE.below hvd hB0)) hr0 (by omega))
     obtain ⟨c0,c1,c2,c3,c4,c5,c6,c7,c8,c9,c10,c11,c12,c13,c14,rfl,-⟩:=Ex.cells15 hvd
     unfold termOf at HI
     obtain ⟨q0,q1,q2,q3,q4,q5,q6,q7,q8,q9,q10,q11,q12,q13,q14⟩:=lie15 hv'
     have HX0:=Hd hx
     clear hv hvd hv' hrd hx hl ih
     go_wp2_with fail
     refine HI.out.mono ?_
     rintro e wz2 ⟨r2,rfl,g1,g2,g3,g4⟩
     have hb2:=hb.trans (g4.mono (by omega))
     have HX2:Hid (0≤r2→(∀(i:Nat) x,i<j+1→l[i]?=some x→shapeE x)∧(sizeEL (l.take (j+1)):Int)≤k-1-r2):=Hd (fun h0=>⟨fun i x' hi hx'=>by
      by_cases hij:i=j
      ·subst hij
       rw[HX0.out]at hx'
       injection hx' with hx'
       subst hx'
       exact (g3.out h0).1
      ·exact (HX.out (by omega)).1 i x' (by omega) hx',by
      have u1:=(g3.out h0).2
      have u2:=(HX.out (by omega)).2
      rw[sizeEL_take HX0.out]
      omega⟩)
     clear HX0 HX g3 g4 HI
     go_wp2
     refine ⟨⟨j+1,r2,rfl,rfl,hlt,by omega,by omega,hb2,HX2⟩,?_⟩
     simp[intOf]
     omega
    ·go_wp2
     go_ret
     exact ⟨r,rfl,by omega,by omega,Hd (fun h=>absurd h (by omega)),hB0⟩
   ·obtain rfl:j=l.length:=by omega
    go_wp2
    go_ret
    refine ⟨r,rfl,by omega,by omega,Hd (fun h=>?_),hB0⟩
    obtain ⟨u1,u2⟩:=HX.out h
    rw[List.take_length]at u2
    refine ⟨⟨HS.out.1,HS.out.2,shapeEL_iff.2 fun x hx=>?_⟩,by rw[sizeE];omega⟩
    obtain ⟨i,hi,rfl⟩:=List.getElem_of_mem hx
    exact u1 i _ hi (List.getElem?_eq_getElem hi)
 have hlb:((l.length:Int)!=n)=true:=by rw[bne_iff_ne];exact hlen
 go_enter Tryz.func35,Tryz.ntmps35
 go_wp2_with fail
 refine HP.out.mono ?_
 rintro e w1 ⟨rfl,hb1⟩
 have hz1:Below (w.heap.size+1) (w.alloc (.cells #[.string op,.int .i64 a,.slice Al l.length cl,.string nm,n0,n1,n2,n3,n4,n5,n6,n7,n8,n9,n10] 32)) w1:=by rw[hsz]at hb1;exact hb1
 have hBw:=HB.out.trans (hb1.mono HB.out.size)
 have d3:w1.cell? ⟨w.heap.size,3,none⟩=some (.string nm):=(hz1.cell (p:=⟨w.heap.size,3,none⟩) (show w.heap.size<w.heap.size+1 by omega)).trans (by simp[go_sem])
 have d0:w1.cell? ⟨w.heap.size,0,none⟩=some (.string op):=(hz1.cell (p:=⟨w.heap.size,0,none⟩) (show w.heap.size<w.heap.size+1 by omega)).trans (by simp[go_sem])
 have d2:w1.cell? ⟨w.heap.size,2,none⟩=some (.slice Al l.length cl):=(hz1.cell (p:=⟨w.heap.size,2,none⟩) (show w.heap.size<w.heap.size+1 by omega)).trans (by simp[go_sem])
 have hsl:w.heap.size<w1.heap.size:=by have:=hz1.size;rw[hsz]at this;omega
 clear hb1
 go_wp2
 go_ret
 exact ⟨-1,rfl,by omega,by omega,Hd (fun h=>absurd h (by omega)),hBw⟩
end Go.Proofs.YtbemeapjeipjlaaGreatDoor

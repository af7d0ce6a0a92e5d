/- Walks of the reference's query: names of at (d). -/
import Derived.Test.YtbemeapjeipjlaaGreatDoorQN47
import Derived.Test.YtbemeapjeipjlaaGreatDoorQN48
import Derived.Test.YtbemeapjeipjlaaGreatDoorQN38
set_option linter.unusedVariables false
set_option linter.unusedSimpArgs false
namespace Go.Proofs.YtbemeapjeipjlaaGreatDoor
open Go Go.RowKit
set_option maxRecDepth 100000
set_option maxHeartbeats 8000000
theorem names_at_d (a:Int) (l:List Ex) (nm:ByteArray) (t:Tm) (ih:∀x∈l,NamesC x) (a0:Int) (l0:List Ex) (nm0:ByteArray) (t0:Tm) (hx0:l[0]?=some (.mk oSelf a0 l0 nm0 t0)) (a1:Int) (l1:List Ex) (nm1:ByteArray) (b1:Bool) (i1:Int) (f1:Nat) (s1:ByteArray) (bs1:List UInt8) (r1:Int) (tl1:List Tm) (td1:List (ByteArray×Tm)) (c1:ByteArray) (v1:Int) (hx1:l[1]?=some (.mk oValue a1 l1 nm1 (.mk 5 b1 i1 f1 s1 bs1 r1 tl1 td1 c1 v1))) (hnb:nameB s1.data.toList=false):NamesC (.mk oAt a l nm t):=by
 rintro x L A c w ⟨Al,cl,y,rfl,hop,ha,hnm,ht,hll,hl⟩ ⟨hsh1,hsh2,hsh3⟩ hLn hA
 have HSH:=Hd (shapeEL_iff.1 hsh3)
 rw[sizeE]at hLn
 have hsE:sizeE (.mk oAt a l nm t)=1+sizeEL l:=by rw[sizeE]
 rw[show NamesPost (.mk oAt a l nm t) L w=NamesPostN (.mk oAt a l nm t) L (1+sizeEL l) w by unfold NamesPost;rw[hsE]]
 clear hsE
 obtain ⟨n0,n1,n2,n3,n4,n5,n6,n7,n8,n9,n10,rfl,-⟩:=ht.eleven
 unfold termOf
 have HB:Hid (Below w.heap.size w (w.alloc (.cells #[.string oAt,.int .i64 a,.slice Al l.length cl,.string nm,n0,n1,n2,n3,n4,n5,n6,n7,n8,n9,n10] 32))):=Hd bnew
 have hsz:(w.alloc (.cells #[.string oAt,.int .i64 a,.slice Al l.length cl,.string nm,n0,n1,n2,n3,n4,n5,n6,n7,n8,n9,n10] 32)).heap.size=w.heap.size+1:=by simp
 have hWz:=hA.on HB.out
 have hl1:l.length=2:=hsh2 rfl
 have hl0:0<l.length:=by omega
 have hl01:1<l.length:=by omega
 clear hsh1 hsh2
 obtain ⟨bk,off,rfl,hbB,hrd⟩:=hl.resolve_left (fun h=>by rw[h]at hl0;simp at hl0)
 obtain ⟨v0,hv0,hvd0⟩:=RdEL.iff.1 hrd 0 _ hx0
 have f0:(w.alloc (.cells #[.string oAt,.int .i64 a,.slice (some ⟨bk,off,none⟩) l.length cl,.string nm,n0,n1,n2,n3,n4,n5,n6,n7,n8,n9,n10] 32)).cell? ⟨bk,off,none⟩=some (.string oSelf):=by
  obtain ⟨A9,c9,y9,rfl,-⟩:=hvd0
  have:=hv0 0 _ rfl
  simp only[Nat.zero_mul,Nat.add_zero]at this
  exact (HB.out.cell (p:=⟨bk,off,none⟩) hbB).trans this
 have hbk0:bk<(w.alloc (.cells #[.string oAt,.int .i64 a,.slice (some ⟨bk,off,none⟩) l.length cl,.string nm,n0,n1,n2,n3,n4,n5,n6,n7,n8,n9,n10] 32)).heap.size:=by rw[hsz];omega
 clear v0 hv0 hvd0
 have HX00:=Hd hx0
 have HL1:=Hd hl1
 clear hl1
 have HNS:Hid (oAt≠oSelf∧oAt≠oField):=Hd ⟨by decide,by decide⟩
 obtain ⟨v1',hv1,hvd1⟩:=RdEL.iff.1 hrd 1 _ hx1
 have hv1':=hv1.keep (fun q hq=>HB.out.cell (show q.block<_ by rw[hq];exact hbB))
 have HX1:=Hd hx1
 obtain ⟨Al1,cl1,y1,rfl,hop1,-,hnm1,ht1,-⟩:=hvd1
 obtain ⟨Ab1,cb1,At1,ct1,Ad1,cd1,rfl,hk1,hi1,hs1,-⟩:=ht1
 have o0:=fun (W:World) (a:Addr) (m:Mode) (x:Nat)=>run_store Tryz.prog W a (.float .f64 x) m rfl
 obtain ⟨q0,q1,q2,q3,q4,q5,q6,q7,q8,q9,q10,q11,q12,q13,q14⟩:=lie15 hv1'
 simp only[Nat.one_mul]at *
 have hzc:Below (w.heap.size+1) (w.alloc (.cells #[.string oAt,.int .i64 a,.slice (some ⟨bk,off,none⟩) l.length cl,.string nm,n0,n1,n2,n3,n4,n5,n6,n7,n8,n9,n10] 32)) ((w.alloc (.cells #[.string oAt,.int .i64 a,.slice (some ⟨bk,off,none⟩) l.length cl,.string nm,n0,n1,n2,n3,n4,n5,n6,n7,n8,n9,n10] 32)).alloc (.cells #[.string oValue,.int .i64 a1,.slice Al1 l1.length cl1,.string nm1,.int .i64 5,.bool b1,.int .i64 i1,.float .f64 f1,.string s1,.slice Ab1 bs1.length cb1,.int .u64 r1,.slice At1 tl1.length ct1,.slice Ad1 td1.length cd1,.string c1,.int .i64 v1] 32)):=(Below.refl _ _).alloc (by rw[hsz];omega) _
 have hWc:=hWz.on (show Below (w.alloc (.cells #[.string oAt,.int .i64 a,.slice (some ⟨bk,off,none⟩) l.length cl,.string nm,n0,n1,n2,n3,n4,n5,n6,n7,n8,n9,n10] 32)).heap.size (w.alloc (.cells #[.string oAt,.int .i64 a,.slice (some ⟨bk,off,none⟩) l.length cl,.string nm,n0,n1,n2,n3,n4,n5,n6,n7,n8,n9,n10] 32)) ((w.alloc (.cells #[.string oAt,.int .i64 a,.slice (some ⟨bk,off,none⟩) l.length cl,.string nm,n0,n1,n2,n3,n4,n5,n6,n7,n8,n9,n10] 32)).alloc (.cells #[.string oValue,.int .i64 a1,.slice Al1 l1.length cl1,.string nm1,.int .i64 5,.bool b1,.int .i64 i1,.float .f64 f1,.string s1,.slice Ab1 bs1.length cb1,.int .u64 r1,.slice At1 tl1.length ct1,.slice Ad1 td1.length cd1,.string c1,.int .i64 v1] 32)) from bnew)
 have hszc:((w.alloc (.cells #[.string oAt,.int .i64 a,.slice (some ⟨bk,off,none⟩) l.length cl,.string nm,n0,n1,n2,n3,n4,n5,n6,n7,n8,n9,n10] 32)).alloc (.cells #[.string oValue,.int .i64 a1,.slice Al1 l1.length cl1,.string nm1,.int .i64 5,.bool b1,.int .i64 i1,.float .f64 f1,.string s1,.slice Ab1 bs1.length cb1,.int .u64 r1,.slice At1 tl1.length ct1,.slice Ad1 td1.length cd1,.string c1,.int .i64 v1] 32)).heap.size=w.heap.size+2:=by simp
 have HNm:=Hd (fun (W:World)=>rname_any s1 W hs1)
 rw[hnb]at HNm
 clear HX00 HL1 hx0 HX1 hx1 hv1 hv1'
 clear hnb
 go_enter Tryz.func22,Tryz.ntmps22
 go_wp2_with fail
 refine (HNm.out _).mono ?_
 rintro y w2 ⟨rfl,rfl⟩
 go_wp2_with fail
 have hz:=hzc
 clear hWz
 have hWz:=hWc
 clear q0 q1 q2 q3 q4 q5 q6 q7 q8 q9 q10 q11 q12 q13 q14
 have hzs:=hz.size
 rw[hsz]at hzs
 go_loopw [1,7,8] (fun v ov jv wr=>∃(j:Nat) (A1:Option Addr) (c1:Nat) (L1:List ByteArray) (on:Bool),v=.slice A1 L1.length c1∧ov=.bool on∧jv=.int .i64 j∧j≤l.length∧Below (w.heap.size+1) (w.alloc (.cells #[.string oAt,.int .i64 a,.slice (some ⟨bk,off,none⟩) l.length cl,.string nm,n0,n1,n2,n3,n4,n5,n6,n7,n8,n9,n10] 32)) wr∧WordsAt wr (fun b=>b<wr.heap.size) A1 L1∧L1.length≤L.length+sizeEL (l.take j)∧Hid ((∀s∈L,s∈L1)∧(on=true→∀(i:Nat) x,i<j→l[i]?=some x→¬SkipP oAt nm i→AskSame x L1))) (fun _ _ jv _=>l.length-(intOf jv).toNat)
 case atStart=>exact ⟨0,A,c,L,true,rfl,rfl,rfl,by omega,hz,hWz,by omega,Hd ⟨fun s h=>h,fun _ i x h=>absurd h (by omega)⟩⟩
 case round =>
  obtain ⟨j,A1,c1,L1,on,rfl,rfl,rfl,hj,hb,hW,hL1,HX⟩:=hrel
  have hbz:=hb.size
  rw[hsz]at hbz
  have e0:wr.cell? ⟨w.heap.size,0,none⟩=some (.string oAt):=(hb.cell (p:=⟨w.heap.size,0,none⟩) (show w.heap.size<w.heap.size+1 by omega)).trans (by simp[go_sem])
  have e2:wr.cell? ⟨w.heap.size,2,none⟩=some (.slice (some ⟨bk,off,none⟩) l.length cl):=(hb.cell (p:=⟨w.heap.size,2,none⟩) (show w.heap.size<w.heap.size+1 by omega)).trans (by simp[go_sem])
  have e3:wr.cell? ⟨w.heap.size,3,none⟩=some (.string nm):=(hb.cell (p:=⟨w.heap.size,3,none⟩) (show w.heap.size<w.heap.size+1 by omega)).trans (by simp[go_sem])
  have hwl:w.heap.size<wr.heap.size:=by omega
  have hB0:=HB.out.trans (hb.mono (by omega))
  by_cases hlt:j<l.length
  ·by_cases hj1:j=1
   ·have hjb:((j:Int)==1)=true:=by simp;omega
    clear hj1
    have hbB0:=hbB
    obtain ⟨x,hx⟩:∃x,l[j]?=some x:=⟨_,List.getElem?_eq_getElem hlt⟩
    obtain ⟨v,hv,hvd⟩:=RdEL.iff.1 hrd j x hx
    have hv':=hv.keep (fun q hq=>hB0.cell (show q.block<_ by rw[hq];exact hbB))
    have hbk:bk<wr.heap.size:=by omega
    have HZ:=Hd (sizeEL_take hx)
    have hle:=sizeEL_le l (j+1)
    rw[HZ.out]at hle
    have HI:=Hd (ih x (List.mem_of_getElem? hx) v L1 A1 c1 wr (RdE.more hB0.size _ _ (RdE.below hvd hB0)) (HSH.out x (List.mem_of_getElem? hx)) (by omega) hW)
    obtain ⟨c0,c1,c2,c3,c4,c5,c6,c7,c8,c9,c10,c11,c12,c13,c14,rfl,-⟩:=Ex.cells15 hvd
    unfold termOf at HI
    obtain ⟨q0,q1,q2,q3,q4,q5,q6,q7,q8,q9,q10,q11,q12,q13,q14⟩:=lie15 hv'
    have HX0:=Hd hx
    clear hv hvd hv' hrd hx hl ih hle
    go_wp2_with fail
    refine HI.out.mono ?_
    rintro e wz2 ⟨A2,c2,L2,ok,rfl,g1,g2,g3,g4⟩
    have hb2:=hb.trans (g4.mono (by omega))
    have HX2:Hid ((∀s∈L,s∈L2)∧((on&&ok)=true→∀(i:Nat) x,i<j+1→l[i]?=some x→¬SkipP oAt nm i→AskSame x L2)):=Hd ⟨fun s hs=>g2.out.1 s (HX.out.1 s hs),fun hon i x' hi hx' hn=>by
     have hon2:=(Bool.and_eq_true _ _).mp hon
     by_cases hij:i=j
     ·subst hij
      rw[HX0.out]at hx'
      injection hx' with hx'
      subst hx'
      exact g2.out.2 hon2.2
     ·exact (HX.out.2 hon2.1 i x' (by omega) hx' hn).mono g2.out.1⟩
    have hL2:L2.length≤L.length+sizeEL (l.take (j+1)):=by rw[HZ.out];omega
    clear HX0 HX g2 g4 HI HZ
    cases on
    ·go_wp2
     refine ⟨⟨j+1,A2,c2,L2,false,rfl,rfl,rfl,hlt,hb2,g1,hL2,HX2⟩,?_⟩
     simp[intOf]
     omega
    ·go_wp2
     refine ⟨⟨j+1,A2,c2,L2,ok,rfl,rfl,rfl,hlt,hb2,g1,hL2,HX2⟩,?_⟩
     simp[intOf]
     omega
   ·have hjb:((j:Int)==1)=false:=by simp;omega
    have hbB0:=hbB
    obtain ⟨x,hx⟩:∃x,l[j]?=some x:=⟨_,List.getElem?_eq_getElem hlt⟩
    obtain ⟨v,hv,hvd⟩:=RdEL.iff.1 hrd j x hx
    have hv':=hv.keep (fun q hq=>hB0.cell (show q.block<_ by rw[hq];exact hbB))
    have hbk:bk<wr.heap.size:=by omega
    have HZ:=Hd (sizeEL_take hx)
    have hle:=sizeEL_le l (j+1)
    rw[HZ.out]at hle
    have HI:=Hd (ih x (List.mem_of_getElem? hx) v L1 A1 c1 wr (RdE.more hB0.size _ _ (RdE.below hvd hB0)) (HSH.out x (List.mem_of_getElem? hx)) (by omega) hW)
    obtain ⟨c0,c1,c2,c3,c4,c5,c6,c7,c8,c9,c10,c11,c12,c13,c14,rfl,-⟩:=Ex.cells15 hvd
    unfold termOf at HI
    obtain ⟨q0,q1,q2,q3,q4,q5,q6,q7,q8,q9,q10,q11,q12,q13,q14⟩:=lie15 hv'
    have HX0:=Hd hx
    clear hv hvd hv' hrd hx hl ih hle
    go_wp2_with fail
    refine HI.out.mono ?_
    rintro e wz2 ⟨A2,c2,L2,ok,rfl,g1,g2,g3,g4⟩
    have hb2:=hb.trans (g4.mono (by omega))
    have HX2:Hid ((∀s∈L,s∈L2)∧((on&&ok)=true→∀(i:Nat) x,i<j+1→l[i]?=some x→¬SkipP oAt nm i→AskSame x L2)):=Hd ⟨fun s hs=>g2.out.1 s (HX.out.1 s hs),fun hon i x' hi hx' hn=>by
     have hon2:=(Bool.and_eq_true _ _).mp hon
     by_cases hij:i=j
     ·subst hij
      rw[HX0.out]at hx'
      injection hx' with hx'
      subst hx'
      exact g2.out.2 hon2.2
     ·exact (HX.out.2 hon2.1 i x' (by omega) hx' hn).mono g2.out.1⟩
    have hL2:L2.length≤L.length+sizeEL (l.take (j+1)):=by rw[HZ.out];omega
    clear HX0 HX g2 g4 HI HZ
    cases on
    ·go_wp2
     refine ⟨⟨j+1,A2,c2,L2,false,rfl,rfl,rfl,hlt,hb2,g1,hL2,HX2⟩,?_⟩
     simp[intOf]
     omega
    ·go_wp2
     refine ⟨⟨j+1,A2,c2,L2,ok,rfl,rfl,rfl,hlt,hb2,g1,hL2,HX2⟩,?_⟩
     simp[intOf]
     omega
  ·obtain rfl:j=l.length:=by omega
   rw[List.take_length]at hL1
   go_wp2
   go_ret2
   exact ⟨A1,c1,L1,on,rfl,hW,Hd ⟨HX.out.1,fun h=>askSame_parts oAt a l nm t HNS.out.1 HNS.out.2 (fun i x hx hn=>HX.out.2 h i x (List.getElem?_eq_some_iff.1 hx).1 hx hn)⟩,by omega,hB0⟩
theorem names_at_e (a:Int) (l:List Ex) (nm:ByteArray) (t:Tm) (ih:∀x∈l,NamesC x) (a0:Int) (l0:List Ex) (nm0:ByteArray) (t0:Tm) (hx0:l[0]?=some (.mk oSelf a0 l0 nm0 t0)) (a1:Int) (l1:List Ex) (nm1:ByteArray) (b1:Bool) (i1:Int) (f1:Nat) (s1:ByteArray) (bs1:List UInt8) (r1:Int) (tl1:List Tm) (td1:List (ByteArray×Tm)) (c1:ByteArray) (v1:Int) (hx1:l[1]?=some (.mk oValue a1 l1 nm1 (.mk 5 b1 i1 f1 s1 bs1 r1 tl1 td1 c1 v1))) (hnb:nameB s1.data.toList=true):NamesC (.mk oAt a l nm t):=by
 rintro x L A c w ⟨Al,cl,y,rfl,hop,ha,hnm,ht,hll,hl⟩ ⟨hsh1,hsh2,hsh3⟩ hLn hA
 have HSH:=Hd (shapeEL_iff.1 hsh3)
 rw[sizeE]at hLn
 have hsE:sizeE (.mk oAt a l nm t)=1+sizeEL l:=by rw[sizeE]
 rw[show NamesPost (.mk oAt a l nm t) L w=NamesPostN (.mk oAt a l nm t) L (1+sizeEL l) w by unfold NamesPost;rw[hsE]]
 clear hsE
 obtain ⟨n0,n1,n2,n3,n4,n5,n6,n7,n8,n9,n10,rfl,-⟩:=ht.eleven
 unfold termOf
 have HB:Hid (Below w.heap.size w (w.alloc (.cells #[.string oAt,.int .i64 a,.slice Al l.length cl,.string nm,n0,n1,n2,n3,n4,n5,n6,n7,n8,n9,n10] 32))):=Hd bnew
 have hsz:(w.alloc (.cells #[.string oAt,.int .i64 a,.slice Al l.length cl,.string nm,n0,n1,n2,n3,n4,n5,n6,n7,n8,n9,n10] 32)).heap.size=w.heap.size+1:=by simp
 have hWz:=hA.on HB.out
 have hl1:l.length=2:=hsh2 rfl
 have hl0:0<l.length:=by omega
 have hl01:1<l.length:=by omega
 clear hsh1 hsh2
 obtain ⟨bk,off,rfl,hbB,hrd⟩:=hl.resolve_left (fun h=>by rw[h]at hl0;simp at hl0)
 obtain ⟨v0,hv0,hvd0⟩:=RdEL.iff.1 hrd 0 _ hx0
 have f0:(w.alloc (.cells #[.string oAt,.int .i64 a,.slice (some ⟨bk,off,none⟩) l.length cl,.string nm,n0,n1,n2,n3,n4,n5,n6,n7,n8,n9,n10] 32)).cell? ⟨bk,off,none⟩=some (.string oSelf):=by
  obtain ⟨A9,c9,y9,rfl,-⟩:=hvd0
  have:=hv0 0 _ rfl
  simp only[Nat.zero_mul,Nat.add_zero]at this
  exact (HB.out.cell (p:=⟨bk,off,none⟩) hbB).trans this
 have hbk0:bk<(w.alloc (.cells #[.string oAt,.int .i64 a,.slice (some ⟨bk,off,none⟩) l.length cl,.string nm,n0,n1,n2,n3,n4,n5,n6,n7,n8,n9,n10] 32)).heap.size:=by rw[hsz];omega
 clear v0 hv0 hvd0
 have HX00:=Hd hx0
 have HL1:=Hd hl1
 clear hl1
 have HNS:Hid (oAt≠oSelf∧oAt≠oField):=Hd ⟨by decide,by decide⟩
 obtain ⟨v1',hv1,hvd1⟩:=RdEL.iff.1 hrd 1 _ hx1
 have hv1':=hv1.keep (fun q hq=>HB.out.cell (show q.block<_ by rw[hq];exact hbB))
 have HX1:=Hd hx1
 obtain ⟨Al1,cl1,y1,rfl,hop1,-,hnm1,ht1,-⟩:=hvd1
 obtain ⟨Ab1,cb1,At1,ct1,Ad1,cd1,rfl,hk1,hi1,hs1,-⟩:=ht1
 have o0:=fun (W:World) (a:Addr) (m:Mode) (x:Nat)=>run_store Tryz.prog W a (.float .f64 x) m rfl
 obtain ⟨q0,q1,q2,q3,q4,q5,q6,q7,q8,q9,q10,q11,q12,q13,q14⟩:=lie15 hv1'
 simp only[Nat.one_mul]at *
 have hzc:Below (w.heap.size+1) (w.alloc (.cells #[.string oAt,.int .i64 a,.slice (some ⟨bk,off,none⟩) l.length cl,.string nm,n0,n1,n2,n3,n4,n5,n6,n7,n8,n9,n10] 32)) ((w.alloc (.cells #[.string oAt,.int .i64 a,.slice (some ⟨bk,off,none⟩) l.length cl,.string nm,n0,n1,n2,n3,n4,n5,n6,n7,n8,n9,n10] 32)).alloc (.cells #[.string oValue,.int .i64 a1,.slice Al1 l1.length cl1,.string nm1,.int .i64 5,.bool b1,.int .i64 i1,.float .f64 f1,.string s1,.slice Ab1 bs1.length cb1,.int .u64 r1,.slice At1 tl1.length ct1,.slice Ad1 td1.length cd1,.string c1,.int .i64 v1] 32)):=(Below.refl _ _).alloc (by rw[hsz];omega) _
 have hWc:=hWz.on (show Below (w.alloc (.cells #[.string oAt,.int .i64 a,.slice (some ⟨bk,off,none⟩) l.length cl,.string nm,n0,n1,n2,n3,n4,n5,n6,n7,n8,n9,n10] 32)).heap.size (w.alloc (.cells #[.string oAt,.int .i64 a,.slice (some ⟨bk,off,none⟩) l.length cl,.string nm,n0,n1,n2,n3,n4,n5,n6,n7,n8,n9,n10] 32)) ((w.alloc (.cells #[.string oAt,.int .i64 a,.slice (some ⟨bk,off,none⟩) l.length cl,.string nm,n0,n1,n2,n3,n4,n5,n6,n7,n8,n9,n10] 32)).alloc (.cells #[.string oValue,.int .i64 a1,.slice Al1 l1.length cl1,.string nm1,.int .i64 5,.bool b1,.int .i64 i1,.float .f64 f1,.string s1,.slice Ab1 bs1.length cb1,.int .u64 r1,.slice At1 tl1.length ct1,.slice Ad1 td1.length cd1,.string c1,.int .i64 v1] 32)) from bnew)
 have hszc:((w.alloc (.cells #[.string oAt,.int .i64 a,.slice (some ⟨bk,off,none⟩) l.length cl,.string nm,n0,n1,n2,n3,n4,n5,n6,n7,n8,n9,n10] 32)).alloc (.cells #[.string oValue,.int .i64 a1,.slice Al1 l1.length cl1,.string nm1,.int .i64 5,.bool b1,.int .i64 i1,.float .f64 f1,.string s1,.slice Ab1 bs1.length cb1,.int .u64 r1,.slice At1 tl1.length ct1,.slice Ad1 td1.length cd1,.string c1,.int .i64 v1] 32)).heap.size=w.heap.size+2:=by simp
 have HNm:=Hd (fun (W:World)=>rname_any s1 W hs1)
 rw[hnb]at HNm
 have HWI:=Hd (with_any L A c s1 (fun b=>b<((w.alloc (.cells #[.string oAt,.int .i64 a,.slice (some ⟨bk,off,none⟩) l.length cl,.string nm,n0,n1,n2,n3,n4,n5,n6,n7,n8,n9,n10] 32)).alloc (.cells #[.string oValue,.int .i64 a1,.slice Al1 l1.length cl1,.string nm1,.int .i64 5,.bool b1,.int .i64 i1,.float .f64 f1,.string s1,.slice Ab1 bs1.length cb1,.int .u64 r1,.slice At1 tl1.length ct1,.slice Ad1 td1.length cd1,.string c1,.int .i64 v1] 32)).heap.size) ((w.alloc (.cells #[.string oAt,.int .i64 a,.slice (some ⟨bk,off,none⟩) l.length cl,.string nm,n0,n1,n2,n3,n4,n5,n6,n7,n8,n9,n10] 32)).alloc (.cells #[.string oValue,.int .i64 a1,.slice Al1 l1.length cl1,.string nm1,.int .i64 5,.bool b1,.int .i64 i1,.float .f64 f1,.string s1,.slice Ab1 bs1.length cb1,.int .u64 r1,.slice At1 tl1.length ct1,.slice Ad1 td1.length cd1,.string c1,.int .i64 v1] 32)) (fun b h=>h) (by omega) hWc)
 have HF:Hid (∀L',s1∈L'→AskSame (.mk oAt a l nm t) L'):=Hd (fun L' h=>by
  have h2:=HL1.out
  match l,h2 with
  | [y0,y1],_ =>
   have e0:=HX00.out
   have e1:=HX1.out
   simp at e0 e1
   subst e0
   subst e1
   exact askSame_at a a0 l0 [] nm0 t0 a1 l1 nm1 b1 i1 f1 s1 bs1 r1 tl1 td1 c1 v1 nm t h)
 clear HX00 HL1 hx0 HX1 hx1 hv1 hv1'
 clear hnb HSH ih
 go_enter Tryz.func22,Tryz.ntmps22
 go_wp2_with fail
 refine (HNm.out _).mono ?_
 rintro y w2 ⟨rfl,rfl⟩
 go_wp2_with fail
 refine HWI.out.mono ?_
 rintro e w1 ⟨A2,c2,L2,rfl,g1,g2,g3,g4⟩
 go_wp2
 go_ret2
 exact ⟨A2,c2,L2,true,rfl,g1.more (fun b h=>h.elim (fun h=>Nat.lt_of_lt_of_le h g4.size) (fun h=>h.2)),Hd ⟨fun s h=>(g2.out s).2 (.inr h),fun _=>HF.out _ ((g2.out s1).2 (.inl rfl))⟩,by omega,HB.out.trans ((hzc.trans (g4.mono (by omega))).mono (by omega))⟩
theorem names_at (a:Int) (l:List Ex) (nm:ByteArray) (t:Tm) (ih:∀x∈l,NamesC x):NamesC (.mk oAt a l nm t):=by
 intro x L A c w hx hsh hLn hA
 have hl2:l.length=2:=hsh.2.1 rfl
 obtain ⟨x0,hx0⟩:∃x,l[0]?=some x:=⟨_,List.getElem?_eq_getElem (by omega)⟩
 obtain ⟨x1,hx1⟩:∃x,l[1]?=some x:=⟨_,List.getElem?_eq_getElem (by omega)⟩
 obtain ⟨op0,a0,l0,nm0,t0⟩:=x0
 obtain ⟨op1,a1,l1,nm1,t1⟩:=x1
 obtain ⟨k1,b1,i1,f1,s1,bs1,r1,tl1,td1,c1,v1⟩:=t1
 by_cases h0:op0=oSelf
 ·subst h0
  by_cases h1:op1=oValue
  ·subst h1
   by_cases h2:k1=5
   ·subst h2
    cases hn:nameB s1.data.toList
    ·exact names_at_d a l nm t ih a0 l0 nm0 t0 hx0 a1 l1 nm1 b1 i1 f1 s1 bs1 r1 tl1 td1 c1 v1 hx1 hn x L A c w hx hsh hLn hA
    ·exact names_at_e a l nm t ih a0 l0 nm0 t0 hx0 a1 l1 nm1 b1 i1 f1 s1 bs1 r1 tl1 td1 c1 v1 hx1 hn x L A c w hx hsh hLn hA
   ·exact names_at_c a l nm t ih a0 l0 nm0 t0 hx0 a1 l1 nm1 k1 b1 i1 f1 s1 bs1 r1 tl1 td1 c1 v1 hx1 h2 x L A c w hx hsh hLn hA
  ·exact names_at_b a l nm t ih a0 l0 nm0 t0 hx0 a1 l1 nm1 k1 b1 i1 f1 s1 bs1 r1 tl1 td1 c1 v1 op1 hx1 h1 x L A c w hx hsh hLn hA
 ·exact names_at_a a l nm t ih op0 a0 l0 nm0 t0 hx0 h0 x L A c w hx hsh hLn hA
theorem names_any (e:Ex):NamesC e:=by
 induction e using Ex.ind with
 | h op a l nm t ih =>
  by_cases h1:op=oSelf;· subst h1;exact names_self a l nm t ih
  by_cases h2:op=oField;· subst h2;exact names_field a l nm t ih
  by_cases h3:op=oDot;· subst h3;exact names_dot a l nm t ih
  by_cases h4:op=oAt;· subst h4;exact names_at a l nm t ih
  by_cases h5:op=oCall;· subst h5;exact names_call a l nm t ih
  exact names_other op h1 h2 h3 h4 h5 a l nm t ih
theorem rNames_any (e:Ex) (x:List Value) (w:World) (hx:RdE w w.heap.size e x):Calls Tryz.prog 6 #[termOf x] w (NamedPost e w):=by
 have HC:=Hd (fun (W:World) (hW:Below w.heap.size w W)=>rCan_any e x W (RdE.more hW.size _ _ (RdE.below hx hW)))
 have HN:=Hd (fun (W:World) (hW:Below w.heap.size w W) (h1:shapeE e) (h2:sizeE e≤16384)=>names_any e x [] none 0 W (RdE.more hW.size _ _ (RdE.below hx hW)) h1 (by simpa using h2) (.inl rfl))
 obtain ⟨c0,c1,c2,c3,c4,c5,c6,c7,c8,c9,c10,c11,c12,c13,c14,rfl,-⟩:=Ex.cells15 hx
 unfold termOf at *
 have HB:Hid (Below w.heap.size w (w.alloc (.cells #[c0,c1,c2,c3,c4,c5,c6,c7,c8,c9,c10,c11,c12,c13,c14] 32))):=Hd bnew
 have hsz:(w.alloc (.cells #[c0,c1,c2,c3,c4,c5,c6,c7,c8,c9,c10,c11,c12,c13,c14] 32)).heap.size=w.heap.size+1:=by simp
 clear hx
 go_enter Tryz.func6,Tryz.ntmps6
 go_wp2_with fail
 refine (HC.out _ HB.out).mono ?_
 rintro y w1 ⟨b,rfl,h1,h2⟩
 have hbb:=HB.out.trans (h2.mono HB.out.size)
 cases b
 ·clear h1
  go_wp2
  go_ret2
  exact ⟨none,0,[],false,rfl,.inl rfl,Hd (fun h=>absurd h (by decide)),by simp,hbb⟩
 ·have h3:=h1.out rfl
  have HN1:=Hd (HN.out w1 hbb h3.1 h3.2)
  have hl:Lie w1 w.heap.size 0 [c0,c1,c2,c3,c4,c5,c6,c7,c8,c9,c10,c11,c12,c13,c14]:=by
   intro j u hj
   refine (h2.cell (p:=⟨w.heap.size,0+j,none⟩) (show w.heap.size<_ by rw[hsz];omega)).trans ?_
   rw[show (w.alloc (.cells #[c0,c1,c2,c3,c4,c5,c6,c7,c8,c9,c10,c11,c12,c13,c14] 32)).cell? ⟨w.heap.size,0+j,none⟩=([c0,c1,c2,c3,c4,c5,c6,c7,c8,c9,c10,c11,c12,c13,c14]:List Value)[j]? by simp[go_sem]]
   exact hj
  have hwl:w.heap.size<w1.heap.size:=by have:=h2.size;rw[hsz]at this;omega
  obtain ⟨q0,q1,q2,q3,q4,q5,q6,q7,q8,q9,q10,q11,q12,q13,q14⟩:=lie15 hl
  clear h1 HN hl
  go_wp2_with fail
  refine HN1.out.mono ?_
  rintro y w2 ⟨A2,c2,L2,only,rfl,g1,g2,g3,g4⟩
  have HS:=Hd g2.out.2
  have hL2:L2.length≤16384:=by have h5:L2.length≤0+sizeE e:=g3;have h6:=h3.2;omega
  clear g2 g3
  go_wp2
  go_ret2
  exact ⟨A2,c2,L2,only,rfl,g1,HS,hL2,hbb.trans (g4.mono hbb.size)⟩
end Go.Proofs.YtbemeapjeipjlaaGreatDoor
